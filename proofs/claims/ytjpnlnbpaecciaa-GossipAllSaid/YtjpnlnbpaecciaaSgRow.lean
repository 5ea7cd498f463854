/- Rows of heads and of signed heads. -/
import Derived.Test.YtjpnlnbpaecciaaSgPut
set_option maxRecDepth 100000
namespace Go.Spec
open Go.RowKit
theorem flat_getG (size : Nat) : ∀ (css : List (List Value)), (∀ x ∈ css, x.length = size) → ∀ (i : Nat) (hi : i < css.length) (j : Nat), j < size → css.flatten[i * size + j]? = (css[i])[j]?
  | [], _, i, hi, _, _ => by simp at hi
  | x :: xs, h, 0, _, j, hj => by
    have hx : x.length = size := h x List.mem_cons_self
    rw [List.flatten_cons, List.getElem?_append_left (by omega)]; simp
  | x :: xs, h, i + 1, hi, j, hj => by
    have hx : x.length = size := h x List.mem_cons_self
    rw [List.flatten_cons, Nat.add_mul, Nat.one_mul, List.getElem?_append_right (by omega), show i * size + size + j - x.length = i * size + j by omega]
    rw [flat_getG size xs (fun y hy => h y (List.mem_cons_of_mem _ hy)) i (by simpa using hi) j hj]
    simp
theorem SlAt.of_ownsG {w : World} {base e size : Nat} {v : Value} {css : List (List Value)} (h : w.ownsRow base e size v css.length css.flatten) (hs : ∀ x ∈ css, x.length = size) : SlAt w size v css := by
  rcases h.2 with ⟨rfl, h0⟩ | ⟨g, cap, cur, rfl, hb, hg, hnc, hcm, _⟩
  · have : css = [] := List.eq_nil_of_length_eq_zero h0
    subst this
    exact ⟨none, 0, rfl, Nat.le_refl _, fun _ h => by simp at h, fun i cs h => by simp at h⟩
  · refine ⟨_, cap, rfl, hnc, hs, fun i cs hi => ⟨g, 0, rfl, (Array.getElem?_eq_some_iff.1 hg).1, fun j u hj => ?_⟩⟩
    have hi' : i < css.length := (List.getElem?_eq_some_iff.1 hi).1
    have he : cs = css[i] := by rw [List.getElem?_eq_getElem hi'] at hi; injection hi with hi; exact hi.symm
    subst he
    have hj' : j < size := by
      have := (List.getElem?_eq_some_iff.1 hj).1
      rwa [hs _ (List.getElem_mem hi')] at this
    have hx := h.cells (g := g) rfl (i * size + j) u (by rw [flat_getG size css hs i hi' j hj']; exact hj)
    rw [Addr.add_lit] at hx
    rw [show 0 + i * size + j = 0 + (i * size + j) by omega]
    exact hx
theorem SlAt.nilG (w : World) (size : Nat) : SlAt w size (.slice none 0 0) [] := ⟨none, 0, rfl, Nat.le_refl _, fun _ h => by simp at h, fun i cs h => by simp at h⟩
/-- a head -/
structure Hd where
  z : Int
  r : List UInt8
/-- its cells -/
def Hd.L (h : Hd) : List Value := (hdA h.z h.r).toList
structure HdsAt (w : World) (v : Value) (hs : List Hd) : Prop where
  at_ : SlAt w 33 v (hs.map Hd.L)
  ok : ∀ h ∈ hs, h.r.length = 32
/-- a signed head: its path lies at a, with so much room -/
structure Sg where
  z : Int
  root : List UInt8
  i : Int
  sig : List UInt8
  path : List (List UInt8)
  a : Option Addr
  cap : Nat
abbrev Sg.p (d : Sg) : Value := .slice d.a d.path.length d.cap
def Sg.L (d : Sg) : List Value := (sgA d.z d.root d.i d.sig d.p).toList
structure Sg.In (w : World) (d : Sg) : Prop where
  r32 : d.root.length = 32
  at_ : SlAt w 32 d.p (hcs d.path)
  sl : d.sig.length ≤ 1000000000
  pl : d.path.length ≤ 1000000000
theorem Sg.In.below {w w' : World} {d : Sg} (h : d.In w) (hb : Below w.heap.size w w') : d.In w' := ⟨h.r32, h.at_.below hb (Nat.le_refl _), h.sl, h.pl⟩
structure SgsAt (w : World) (v : Value) (ds : List Sg) : Prop where
  at_ : SlAt w 36 v (ds.map Sg.L)
  ok : ∀ d ∈ ds, d.In w
theorem SgsAt.below {w w' : World} {v : Value} {ds : List Sg} (h : SgsAt w v ds) (hb : Below w.heap.size w w') : SgsAt w' v ds := ⟨h.at_.below hb (Nat.le_refl _), fun d hd => (h.ok d hd).below hb⟩
theorem HdsAt.below {w w' : World} {v : Value} {hs : List Hd} (h : HdsAt w v hs) (hb : Below w.heap.size w w') : HdsAt w' v hs := ⟨h.at_.below hb (Nat.le_refl _), h.ok⟩
theorem SgsAt.form {w : World} {v : Value} {ds : List Sg} (h : SgsAt w v ds) : ∃ a cap, v = .slice a ds.length cap ∧ ds.length ≤ cap := by
  have := h.at_.form
  rwa [List.length_map] at this
theorem HdsAt.form {w : World} {v : Value} {hs : List Hd} (h : HdsAt w v hs) : ∃ a cap, v = .slice a hs.length cap ∧ hs.length ≤ cap := by
  have := h.at_.form
  rwa [List.length_map] at this
theorem SgsAt.get {w : World} {a : Option Addr} {n cap : Nat} {ds : List Sg} (h : SgsAt w (.slice a n cap) ds) {i : Nat} (hi : i < ds.length) :
    ∃ b o, a = some ⟨b, o, none⟩ ∧ b < w.heap.size ∧ (∀ j u, (sgA ds[i].z ds[i].root ds[i].i ds[i].sig ds[i].p).toList[j]? = some u → w.cell? ((⟨b, o + i * 36, none⟩ : Addr).add j) = some u) := by
  obtain ⟨b, o, ha, hb, _, hc⟩ := h.at_.at (i := i) (cs := ds[i].L) (by simp [hi])
  exact ⟨b, o, ha, hb, hc⟩
theorem HdsAt.get {w : World} {a : Option Addr} {n cap : Nat} {hs : List Hd} (h : HdsAt w (.slice a n cap) hs) {i : Nat} (hi : i < hs.length) :
    ∃ b o, a = some ⟨b, o, none⟩ ∧ b < w.heap.size ∧ (∀ j u, (hdA hs[i].z hs[i].r).toList[j]? = some u → w.cell? ((⟨b, o + i * 33, none⟩ : Addr).add j) = some u) := by
  obtain ⟨b, o, ha, hb, _, hc⟩ := h.at_.at (i := i) (cs := hs[i].L) (by simp [hi])
  exact ⟨b, o, ha, hb, hc⟩
theorem SgsAt.nil (w : World) : SgsAt w (.slice none 0 0) [] := ⟨SlAt.nilG w 36, fun _ h => by simp at h⟩
theorem HdsAt.nil (w : World) : HdsAt w (.slice none 0 0) [] := ⟨SlAt.nilG w 33, fun _ h => by simp at h⟩
/-- the cells of signed heads, one behind the other -/
def sgF (ds : List Sg) : List Value := (ds.map Sg.L).flatten
def hdF (hs : List Hd) : List Value := (hs.map Hd.L).flatten
theorem sgF_snoc (ds : List Sg) (d : Sg) : sgF (ds ++ [d]) = sgF ds ++ d.L := by unfold sgF; rw [List.map_append, List.flatten_append]; simp
theorem hdF_snoc (hs : List Hd) (h : Hd) : hdF (hs ++ [h]) = hdF hs ++ h.L := by unfold hdF; rw [List.map_append, List.flatten_append]; simp
theorem Sg.L_len {d : Sg} (h : d.root.length = 32) : d.L.length = 36 := by
  have := sgA_size (z := d.z) (i := d.i) (sig := d.sig) (p := d.p) h
  unfold Sg.L; rw [Array.length_toList]; exact this
theorem Hd.L_len {d : Hd} (h : d.r.length = 32) : d.L.length = 33 := by
  have := hdA_size (z := d.z) h
  unfold Hd.L; rw [Array.length_toList]; exact this
theorem SgsAt.of_owns {w : World} {base e : Nat} {v : Value} {ds : List Sg} (h : w.ownsRow base e 36 v ds.length (sgF ds)) (ok : ∀ d ∈ ds, d.In w) : SgsAt w v ds := by
  refine ⟨SlAt.of_ownsG (base := base) (e := e) (by rw [List.length_map]; exact h) ?_, ok⟩
  intro x hx
  simp only [List.mem_map] at hx
  obtain ⟨d, hd, rfl⟩ := hx
  exact Sg.L_len (ok d hd).r32
theorem HdsAt.of_owns {w : World} {base e : Nat} {v : Value} {hs : List Hd} (h : w.ownsRow base e 33 v hs.length (hdF hs)) (ok : ∀ d ∈ hs, d.r.length = 32) : HdsAt w v hs := by
  refine ⟨SlAt.of_ownsG (base := base) (e := e) (by rw [List.length_map]; exact h) ?_, ok⟩
  intro x hx
  simp only [List.mem_map] at hx
  obtain ⟨d, hd, rfl⟩ := hx
  exact Hd.L_len (ok d hd)
end Go.Spec
namespace Go.Proofs.Ytjpnlnbpaecciaa
open Go.RowKit Go.Spec
def _root_.Go.Spec.Sg.valid (d : Sg) : Bool := validB d.z d.i d.sig d.path.length
def _root_.Go.Spec.Sg.bytes (d : Sg) : List UInt8 := putS d.z.toNat d.root d.i.toNat d.sig d.path
/-- bytes and an error's number -/
def putR : Option (List UInt8) → Value
  | some s => .tuple #[sv s, .int .i64 0]
  | none => .tuple #[sv [], .int .i64 2]
def _root_.Go.Spec.Sg.put (d : Sg) : Option (List UInt8) := if d.valid then some d.bytes else none
theorem validB_iff {z i : Int} {sig : List UInt8} {n : Nat} : validB z i sig n = true ↔ (0 ≤ z ∧ z ≤ 4096) ∧ 0 ≤ i ∧ i < 8 ∧ sig.length = 16384 ∧ n = 3 := by
  simp [validB, and_assoc]
theorem sput_any (d : Sg) (w : World) (h : d.In w) :
    Calls Try.prog 45 #[.agg (sgA d.z d.root d.i d.sig d.p)] w fun e w' => e = .returned (putR d.put) ∧ Below w.heap.size w w' := by
  obtain ⟨z, root, i, sig, path, a, cap⟩ := d
  unfold Sg.put Sg.valid Sg.bytes
  cases hv : validB z i sig path.length with
  | true =>
    obtain ⟨⟨h1, h2⟩, h3, h4, h5, h6⟩ := validB_iff.1 hv
    obtain ⟨zn, rfl⟩ : ∃ n : Nat, z = n := ⟨z.toNat, by omega⟩
    obtain ⟨jn, rfl⟩ : ∃ n : Nat, i = n := ⟨i.toNat, by omega⟩
    have := sput_yes zn jn root sig path a cap w h.r32 (by omega) (by omega) h5 h6 (by have := h.at_; simpa only [Sg.p, h6] using this)
    simp only [Sg.p, h6, Int.toNat_natCast, if_true]
    exact this
  | false =>
    have := sput_no z i root sig a path.length cap w h.r32 hv
    simpa [Sg.p, putR] using this
theorem rsput_any (d : Sg) (w : World) (h : d.In w) :
    Calls Try.prog 49 #[.agg (sgA d.z d.root d.i d.sig d.p)] w fun e w' => e = .returned (putR d.put) ∧ Below w.heap.size w w' := by
  obtain ⟨z, root, i, sig, path, a, cap⟩ := d
  unfold Sg.put Sg.valid Sg.bytes
  cases hv : validB z i sig path.length with
  | true =>
    obtain ⟨⟨h1, h2⟩, h3, h4, h5, h6⟩ := validB_iff.1 hv
    obtain ⟨zn, rfl⟩ : ∃ n : Nat, z = n := ⟨z.toNat, by omega⟩
    obtain ⟨jn, rfl⟩ : ∃ n : Nat, i = n := ⟨i.toNat, by omega⟩
    have := rsput_yes zn jn root sig path a cap w h.r32 (by omega) (by omega) h5 h6 (by have := h.at_; simpa only [Sg.p, h6] using this)
    simp only [Sg.p, h6, Int.toNat_natCast, if_true]
    exact this
  | false =>
    have := rsput_no z i root sig a path.length cap w h.r32 hv
    simpa [Sg.p, putR] using this
theorem bytes_len (d : Sg) (hv : d.valid = true) (hr : d.root.length = 32) (h32 : ∀ x ∈ d.path, x.length = 32) : d.bytes.length ≤ 17000 := by
  obtain ⟨⟨h1, h2⟩, h3, h4, h5, h6⟩ := validB_iff.1 hv
  have e1 := numL_len d.z.toNat (by omega)
  have e2 := numL_len d.i.toNat (by omega)
  have e3 := numL_len d.sig.length (by omega)
  have e4 := numL_len d.path.length (by omega)
  have e5 : (hashesL d.path).length ≤ 106 := by
    rw [hashesL, if_neg (by omega), List.length_append, flatten_len h32]; omega
  unfold Sg.bytes putS
  simp only [List.length_append]
  omega
end Go.Proofs.Ytjpnlnbpaecciaa
