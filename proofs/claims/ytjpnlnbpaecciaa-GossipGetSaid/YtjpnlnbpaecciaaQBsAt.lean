/- Slices of bytes, read as lists; their pieces by run equations. -/
import Derived.Test.YtjpnlnbpaecciaaQBytes

set_option maxRecDepth 100000
namespace Go.Spec
open Go.RowKit
variable {P : Program} {w : World}
def BsAt (w : World) (v : Value) (l : List UInt8) : Prop :=
  ∃ g o cap, v = .slice (some ⟨g, o, none⟩) l.length cap ∧ l.length ≤ cap ∧ cap ≤ maxLen ∧ g < w.heap.size ∧ ∀ j, j < l.length → w.cell? ⟨g, o + j, none⟩ = some (.int .u8 ((l.getD j 0).toNat : Nat))
theorem BsAt.below {w' : World} {v : Value} {l : List UInt8} (h : BsAt w v l) (hb : Below w.heap.size w w') : BsAt w' v l := by
  obtain ⟨g, o, cap, hv, h1, h2, h3, h4⟩ := h
  exact ⟨g, o, cap, hv, h1, h2, Nat.lt_of_lt_of_le h3 hb.size, fun j hj => (hb.cell (p := ⟨g, o + j, none⟩) h3).trans (h4 j hj)⟩
theorem BsAt.form {v : Value} {l : List UInt8} (h : BsAt w v l) : ∃ a cap, v = .slice (some a) l.length cap ∧ l.length ≤ cap ∧ cap ≤ maxLen := by
  obtain ⟨g, o, cap, hv, h1, h2, _⟩ := h
  exact ⟨_, cap, hv, h1, h2⟩
theorem BsAt.of_row {base e : Nat} {v : Value} {l : List UInt8} (h : RowM w base e v l) : BsAt w v l := by
  obtain ⟨g, cap, cur, fr, hv, h1, h2, h3, h4, h5, h6⟩ := id h
  obtain ⟨g', cap', hv', h1', h2', h3', hc⟩ := h.get
  have : g' = g ∧ cap' = cap := by
    rw [hv] at hv'
    injection hv' with e1 _ e3
    injection e1 with e1
    injection e1 with e1 _
    exact ⟨e1.symm, e3.symm⟩
  obtain ⟨rfl, rfl⟩ := this
  exact ⟨g', 0, cap', hv, h4, h5, h2', fun j hj => by rw [Nat.zero_add]; exact hc j hj⟩
theorem BsAt.conv {v : Value} {l : List UInt8} (h : BsAt w v l) (src dst e : TypeId) (hs : P.underlying src = some (.slice e)) (he : P.underlying e = some (.int .u8)) (hd : P.underlying dst = some .string) :
    (convert src dst v).run P w = .ok (sv l) w := by
  obtain ⟨g, o, cap, rfl, h1, h2, h3, h4⟩ := h
  exact run_convert_bytes_back (P := P) w src dst e ⟨g, o, none⟩ cap l hs he hd (fun j hj => by
    rw [Addr.add_lit]
    have := h4 j hj
    rw [List.getD_eq_getElem?_getD, List.getElem?_eq_getElem hj] at this
    exact this)
theorem BsAt.dropR {a : Option Addr} {n cap : Nat} {l : List UInt8} (h : BsAt w (.slice a n cap) l) (T E : TypeId) (hT : P.underlying T = some (.slice E)) (hE : (P.info? E).map (·.size) = some 1) (ki : Int) (k : Nat) (hki : ki = k) (hk : k ≤ l.length) :
    ∃ a2 c2, (∀ w', (Instr.sliceAt T (.slice a n cap) (some (.int .i64 ki)) none none).run P w' = .ok (.slice a2 (l.drop k).length c2) w') ∧ BsAt w (.slice a2 (l.drop k).length c2) (l.drop k) := by
  subst hki
  obtain ⟨g, o, c, hv, h1, h2, h3, h4⟩ := h
  injection hv with e1 e2 e3
  subst e1; subst e2; subst e3
  cases hq : P.info? E with
  | none => simp [hq] at hE
  | some i =>
    have hi : i.size = 1 := by simpa [hq] using hE
    refine ⟨some (if cap = k then ⟨g, o, none⟩ else ⟨g, o + k, none⟩), cap - k, fun w' => ?_, ?_⟩
    · have hb : (0 : Int) ≤ (k : Int) ∧ (k : Int) ≤ (l.length : Int) := by omega
      simp [Instr.sliceAt, Instr.slice, run_underlying hT, Instr.sliceBounds, Instr.sliceBound, asIntOf, Sem.run_bind, sizeOf, typeInfo, hq, hi, hb, hk, Addr.add_lit]
      by_cases hck : cap = k <;> simp [hck]
    · by_cases hc : cap = k
      · have : (l.drop k).length = 0 := by rw [List.length_drop]; omega
        rw [if_pos hc]
        exact ⟨g, o, cap - k, rfl, by omega, by omega, h3, fun j hj => by omega⟩
      · rw [if_neg hc]
        refine ⟨g, o + k, cap - k, rfl, by rw [List.length_drop]; omega, by omega, h3, fun j hj => ?_⟩
        rw [List.length_drop] at hj
        have := h4 (k + j) (by omega)
        rw [show o + k + j = o + (k + j) by omega, this]
        simp [List.getD_eq_getElem?_getD, List.getElem?_drop]
theorem BsAt.takeR {a : Option Addr} {n cap : Nat} {l : List UInt8} (h : BsAt w (.slice a n cap) l) (T E : TypeId) (hT : P.underlying T = some (.slice E)) (hE : (P.info? E).map (·.size) = some 1) (ki : Int) (k : Nat) (hki : ki = k) (hk : k ≤ l.length) :
    ∃ a2 c2, (∀ w', (Instr.sliceAt T (.slice a n cap) none (some (.int .i64 ki)) none).run P w' = .ok (.slice a2 (l.take k).length c2) w') ∧ BsAt w (.slice a2 (l.take k).length c2) (l.take k) := by
  subst hki
  obtain ⟨g, o, c, hv, h1, h2, h3, h4⟩ := h
  injection hv with e1 e2 e3
  subst e1; subst e2; subst e3
  have hlk : (l.take k).length = k := by rw [List.length_take]; omega
  cases hq : P.info? E with
  | none => simp [hq] at hE
  | some i =>
    have hi : i.size = 1 := by simpa [hq] using hE
    refine ⟨some ⟨g, o, none⟩, cap, fun w' => ?_, g, o, cap, rfl, by omega, h2, h3, fun j hj => ?_⟩
    · have hb : (0 : Int) ≤ (k : Int) ∧ (k : Int) ≤ (cap : Int) := by omega
      rw [hlk]
      simp [Instr.sliceAt, Instr.slice, run_underlying hT, Instr.sliceBounds, Instr.sliceBound, asIntOf, Sem.run_bind, sizeOf, typeInfo, hq, hi, hb, Addr.add_lit]
      try (intro hx; exfalso; omega)
    · rw [h4 j (by omega)]
      simp [List.getD_eq_getElem?_getD, List.getElem?_take_of_lt (show j < k by omega)]
theorem BsAt.midR {a : Option Addr} {n cap : Nat} {l : List UInt8} (h : BsAt w (.slice a n cap) l) (T E : TypeId) (hT : P.underlying T = some (.slice E)) (hE : (P.info? E).map (·.size) = some 1) (ki ei : Int) (k e : Nat) (hki : ki = k) (hei : ei = e) (hk : k ≤ e) (he : e ≤ l.length) :
    ∃ a2 c2, (∀ w', (Instr.sliceAt T (.slice a n cap) (some (.int .i64 ki)) (some (.int .i64 ei)) (some (.int .i64 ei))).run P w' = .ok (.slice a2 ((l.drop k).take (e - k)).length c2) w') ∧ BsAt w (.slice a2 ((l.drop k).take (e - k)).length c2) ((l.drop k).take (e - k)) := by
  subst hki; subst hei
  obtain ⟨g, o, c, hv, h1, h2, h3, h4⟩ := h
  injection hv with e1 e2 e3
  subst e1; subst e2; subst e3
  have hlk : ((l.drop k).take (e - k)).length = e - k := by rw [List.length_take, List.length_drop]; omega
  cases hq : P.info? E with
  | none => simp [hq] at hE
  | some i =>
    have hi : i.size = 1 := by simpa [hq] using hE
    refine ⟨some (if e = k then ⟨g, o, none⟩ else ⟨g, o + k, none⟩), e - k, fun w' => ?_, ?_⟩
    · have hb : (0 : Int) ≤ (e : Int) ∧ (e : Int) ≤ (cap : Int) := by omega
      have hb2 : (0 : Int) ≤ (k : Int) ∧ (k : Int) ≤ (e : Int) := by omega
      rw [hlk]
      simp [Instr.sliceAt, Instr.slice, run_underlying hT, Instr.sliceBounds, Instr.sliceBound, asIntOf, Sem.run_bind, sizeOf, typeInfo, hq, hi, hb, hb2, show e ≤ cap by omega, hk, Addr.add_lit]
      by_cases hck : e = k <;> simp [hck]
    · by_cases hc : e = k
      · rw [if_pos hc]
        exact ⟨g, o, e - k, by rw [hlk], by omega, by omega, h3, fun j hj => by omega⟩
      · rw [if_neg hc]
        refine ⟨g, o + k, e - k, by rw [hlk], by omega, by omega, h3, fun j hj => ?_⟩
        have := h4 (k + j) (by omega)
        rw [show o + k + j = o + (k + j) by omega, this]
        simp [List.getD_eq_getElem?_getD, List.getElem?_drop, List.getElem?_take_of_lt (show j < e - k by omega)]
/-- 'h[:k]' of an array of bytes behind a pointer -/
theorem run_sliceAt_hi (t e : TypeId) (n : Nat) (ht : P.underlying t = some (.array n e)) (hs : (P.info? e).map (·.size) = some 1) (g k : Nat) (i : Int) (hi : i = k) (hl : k ≤ n) (hn : 0 < n) (w : World) :
    (Instr.sliceAt t (.pointer (some ⟨g, 0, none⟩)) none (some (.int .i64 i)) none).run P w = .ok (.slice (some ⟨g, 0, none⟩) k n) w := by
  subst hi
  cases hq : P.info? e with
  | none => simp [hq] at hs
  | some j =>
    have hj : j.size = 1 := by simpa [hq] using hs
    have h1 : ((0 : Int) ≤ (k : Int) ∧ (k : Int) ≤ (n : Int)) := by omega
    have h2 : n ≠ 0 := by omega
    simp [Instr.sliceAt, Instr.sureAddr, run_underlying ht, Instr.sliceBounds, Instr.sliceBound, asIntOf, Sem.run_bind, sizeOf, typeInfo, hq, hj, h1, h2, Addr.add_lit]
    try (intro hx; exfalso; omega)
/-- 'string(h[:k])' of a block of bytes -/
theorem Blk.convHead {g k n : Nat} {l : List UInt8} {t : TypeId} (h : Blk w g (hc l) t) (hk : k ≤ l.length) (src dst e : TypeId) (hs : P.underlying src = some (.slice e)) (he : P.underlying e = some (.int .u8)) (hd : P.underlying dst = some .string) :
    (convert src dst (.slice (some ⟨g, 0, none⟩) k n)).run P w = .ok (sv (l.take k)) w := by
  have hlk : (l.take k).length = k := by rw [List.length_take]; omega
  have := run_convert_bytes_back (P := P) w src dst e ⟨g, 0, none⟩ n (l.take k) hs he hd (fun j hj => by
    rw [cell_at_row h, hc_get l j (by omega)]
    simp [bcell])
  rw [hlk] at this
  exact this
end Go.Spec
