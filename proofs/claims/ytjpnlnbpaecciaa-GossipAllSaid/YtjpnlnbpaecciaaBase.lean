/- General lemmas, without any program in sight: strings as lists of bytes, rows of cells, numbers as bytes. -/
import Derived.WalkKit
import Derived.WalkSpells
import Derived.WalkLawsBesides
import Derived.Deep.DeepCutAuto
import Derived.Deep.CutBlock
import Derived.Deep.CutRange
import Derived.Deep.QuietTactic
import Derived.BigQuiet
import Derived.Deep.RegionLaw
import Derived.Deep.RegionWith
import Derived.Deep.RegionHeld3
import Derived.Deep.DeepFit
import Derived.Deep.LoopGhost
import Derived.Deep.DeepMust
import Derived.Handy
namespace Go.Spec
open Go.RowKit
theorem hid {p : Prop} (h : p) : Hid p := h

/- Strings: all strings of a walk are written 'mkS l'. -/
def mkS (l : List UInt8) : ByteArray := ⟨l.toArray⟩
abbrev sv (l : List UInt8) : Value := .string (mkS l)
def bl (s : ByteArray) : List UInt8 := s.data.toList
theorem mkS_bl (s : ByteArray) : mkS (bl s) = s := by unfold mkS bl; simp
theorem mkS_form (s : ByteArray) : ∃ l, s = mkS l := ⟨bl s, (mkS_bl s).symm⟩
theorem mkS_inj {a b : List UInt8} (h : mkS a = mkS b) : a = b := by
  unfold mkS at h; simpa using h
theorem mkS_lit (l : List UInt8) : (⟨l.toArray⟩ : ByteArray) = mkS l := rfl
@[go_sem] theorem mkS_size (l : List UInt8) : (mkS l).size = l.length := by simp [mkS, ByteArray.size]
@[go_sem] theorem mkS_append (a b : List UInt8) : mkS a ++ mkS b = mkS (a ++ b) := by unfold mkS; rw [ByteArray.mk_append_mk]
@[go_sem] theorem mkS_append_lit (a b : List UInt8) : mkS a ++ (⟨b.toArray⟩ : ByteArray) = mkS (a ++ b) := mkS_append a b
@[go_sem] theorem mkS_lit_append (a b : List UInt8) : (⟨a.toArray⟩ : ByteArray) ++ mkS b = mkS (a ++ b) := mkS_append a b
@[go_sem] theorem mkS_toList (l : List UInt8) : (mkS l).toList = l := by unfold mkS; simp
@[go_sem] theorem mkS_extract (l : List UInt8) (a b : Nat) : (mkS l).extract a b = mkS ((l.take b).drop a) := by
  unfold mkS
  apply ByteArray.ext
  simp [ByteArray.data_extract, List.extract_eq_take_drop, List.drop_take]
theorem mkS_getElem' (l : List UInt8) (i : Nat) (h : i < (mkS l).size) : (mkS l)[i] = l[i]'(by simpa [mkS_size] using h) := rfl
@[go_sem] theorem mkS_getElem (l : List UInt8) (i : Nat) (h : i < (mkS l).size) : (mkS l)[i] = l[i]?.getD 0 := by
  have h' : i < l.length := by simpa [mkS_size] using h
  rw [mkS_getElem', List.getElem?_eq_getElem h']; rfl

/- A byte as a cell. -/
def bcell (b : UInt8) : Value := .int .u8 (b.toNat : Int)
theorem bcell_mk (k : Nat) (h : k < 256) : Value.int .u8 (k : Int) = bcell (UInt8.ofNat k) := by
  unfold bcell; rw [UInt8.toNat_ofNat_of_lt' h]
theorem bcell_one (l : List UInt8) : ∀ u ∈ l.map bcell, u.oneCell' = true := by
  intro u hu; simp at hu; obtain ⟨b, _, rfl⟩ := hu; rfl

/- Rows that the call made. -/
theorem ownsRow_some {w : World} {base e size n : Nat} {v : Value} {xs : List Value} (h : w.ownsRow base e size v n xs) (hn : 0 < n) :
    ∃ g cap, v = .slice (some ⟨g, 0, none⟩) n cap ∧ base ≤ g ∧ g < w.heap.size ∧ n ≤ cap ∧ (∀ j u, xs[j]? = some u → w.cell? ((⟨g, 0, none⟩ : Addr).add j) = some u) := by
  have h0 := h
  rcases h.2 with ⟨_, h⟩ | ⟨g, cap, cur, rfl, hb, hg, hnc, _⟩
  · omega
  · exact ⟨g, cap, rfl, hb, (Array.getElem?_eq_some_iff.1 hg).1, hnc, h0.cells (g := g) rfl⟩
theorem ownsRow_form {w : World} {base e size n : Nat} {v : Value} {xs : List Value} (h : w.ownsRow base e size v n xs) :
    ∃ a cap, v = .slice a n cap ∧ n ≤ cap := by
  rcases h.2 with ⟨rfl, rfl⟩ | ⟨g, cap, cur, rfl, hb, hg, hnc, _⟩
  · exact ⟨none, 0, rfl, Nat.le_refl _⟩
  · exact ⟨_, cap, rfl, hnc⟩
theorem ownsRow_lit {w : World} {base e : Nat} (x : Value) (hb : base ≤ w.heap.size) :
    (w.alloc (.cells #[x] e)).ownsRow base e 1 (.slice (some ⟨w.heap.size, 0, none⟩) 1 1) 1 [x] :=
  ⟨by simp, .inr ⟨w.heap.size, 1, #[x], rfl, hb, heap_alloc_new w _, Nat.le_refl _, by unfold maxLen; omega, by simp, by simp⟩⟩
theorem cell_row_alloc {w : World} {o : Obj} {g : Nat} {xs : List Value} (hg : g < w.heap.size) (h : ∀ j u, xs[j]? = some u → w.cell? ((⟨g, 0, none⟩ : Addr).add j) = some u) :
    ∀ j u, xs[j]? = some u → (w.alloc o).cell? ((⟨g, 0, none⟩ : Addr).add j) = some u := by
  intro j u hu
  have := h j u hu
  rw [Addr.add_lit] at this ⊢
  rw [World.cell?_alloc_past _ _ _ hg]
  exact this
/-- 'string(b)' of a row of bytes -/
theorem run_string_own {P : Program} {w : World} {base : Nat} (src dst e : TypeId) {v : Value} {n : Nat} {l : List UInt8} (hs : P.underlying src = some (.slice e)) (he : P.underlying e = some (.int .u8)) (hd : P.underlying dst = some .string)
    (h : w.ownsRow base e 1 v n (l.map bcell)) : (convert src dst v).run P w = .ok (sv l) w := by
  have hl : l.length = n := by simpa using h.1
  rcases h.2 with ⟨rfl, h0⟩ | ⟨g, cap, cur, rfl, hb, hg, hnc, _⟩
  · have : l = [] := List.eq_nil_of_length_eq_zero (by omega)
    subst this
    exact run_convert_bytes_nil w src e hs he 0 0 dst hd
  · subst hl
    exact run_convert_bytes_back w src dst e _ cap l hs he hd (fun j hj => h.cells (g := g) rfl j _ (by simp [hj, bcell]))

/-- old cells read as before, as rules of a walk -/
theorem bcells {W w1 : World} (hb : Below W.heap.size W w1) : (∀ b o, b < W.heap.size → w1.cell? ⟨b, o, none⟩ = W.cell? ⟨b, o, none⟩) ∧ (∀ b o, b < W.heap.size → w1.frozen? ⟨b, o, none⟩ = W.frozen? ⟨b, o, none⟩) :=
  ⟨fun b o h => hb.cell (p := ⟨b, o, none⟩) h, fun b o h => hb.frozen (p := ⟨b, o, none⟩) h⟩
/- A number's bytes. -/
def hib (n : Nat) : UInt8 := UInt8.ofNat (n % 128 + 128)
def lob (n : Nat) : UInt8 := UInt8.ofNat (n % 128)
def hiF : Nat → Nat → List UInt8
  | 0, _ => []
  | f + 1, n => if n = 0 then [] else hiF f (n / 128) ++ [hib n]
def hiN (n : Nat) : List UInt8 := hiF n n
def numL (n : Nat) : List UInt8 := hiN (n / 128) ++ [lob n]
theorem hib_cell (n : Nat) : bcell (hib n) = .int .u8 ((n : Int) % 128 + 128) := by unfold hib; rw [← bcell_mk _ (by omega)]; congr 1
theorem lob_cell (n : Nat) : bcell (lob n) = .int .u8 ((n : Int) % 128) := by unfold lob; rw [← bcell_mk _ (by omega)]; congr 1
theorem hiF_eq : ∀ (f g n : Nat), n ≤ f → n ≤ g → hiF f n = hiF g n
  | 0, g, n, h, _ => by
    have : n = 0 := by omega
    subst this; cases g <;> simp [hiF]
  | f + 1, 0, n, _, h => by
    have : n = 0 := by omega
    subst this; simp [hiF]
  | f + 1, g + 1, n, h, h' => by
    unfold hiF
    by_cases hn : n = 0
    · simp [hn]
    · simp only [hn, if_false]
      rw [hiF_eq f g (n / 128) (by omega) (by omega)]
theorem hiN_zero : hiN 0 = [] := rfl
theorem hiN_pos (n : Nat) (h : 0 < n) : hiN n = hiN (n / 128) ++ [hib n] := by
  unfold hiN
  obtain ⟨k, rfl⟩ : ∃ k, n = k + 1 := ⟨n - 1, by omega⟩
  rw [hiF, if_neg (by omega), hiF_eq k ((k+1)/128) _ (by omega) (by omega)]
theorem hiN_len (n : Nat) : ∀ f, n < 128 ^ f → (hiN n).length ≤ f := by
  intro f
  induction f generalizing n with
  | zero =>
    intro h
    have : n = 0 := by omega
    subst this; simp [hiN_zero]
  | succ f ih =>
    intro h
    by_cases hn : n = 0
    · subst hn; simp [hiN_zero]
    · rw [hiN_pos n (by omega)]
      have := ih (n / 128) (by rw [Nat.pow_succ] at h; omega)
      simp; exact this
theorem numL_len (n : Nat) (h : n < 18446744073709551616) : (numL n).length ≤ 10 := by
  unfold numL
  have := hiN_len (n / 128) 9 (by omega)
  simp; omega
theorem numL_pos (n : Nat) : 0 < (numL n).length := by unfold numL; simp
end Go.Spec
