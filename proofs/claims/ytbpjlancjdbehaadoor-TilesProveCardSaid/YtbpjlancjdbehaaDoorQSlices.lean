/- pieces of slices of hashes -/
import Derived.Test.YtbpjlancjdbehaaDoorQBase

set_option maxRecDepth 100000
namespace Go.Spec
open Go.RowKit
variable {w : World}
theorem SlAt.takeS {size : Nat} {a : Option Addr} {n cap : Nat} {css : List (List Value)} (h : SlAt w size (.slice a n cap) css) (k : Nat) (hk : k ≤ css.length) : SlAt w size (.slice a k cap) (css.take k) := by
  obtain ⟨a', cap', hv, hc, hs, hcell⟩ := h
  injection hv with e1 e2 e3
  subst e1; subst e3
  have hl : (css.take k).length = k := by rw [List.length_take]; omega
  refine ⟨a, cap, by rw [hl], by rw [hl]; omega, fun cs h => hs cs (List.mem_of_mem_take h), fun i cs hi => ?_⟩
  have hik : i < k := by
    have := (List.getElem?_eq_some_iff.1 hi).1
    rw [hl] at this; exact this
  rw [List.getElem?_take_of_lt hik] at hi
  exact hcell i cs hi
theorem SlAt.dropS {size : Nat} {b o : Nat} {n cap : Nat} {css : List (List Value)} (h : SlAt w size (.slice (some ⟨b, o, none⟩) n cap) css) (k : Nat) (hk : k < css.length) : SlAt w size (.slice (some ⟨b, o + k * size, none⟩) (n - k) (cap - k)) (css.drop k) := by
  obtain ⟨a', cap', hv, hc, hs, hcell⟩ := h
  injection hv with e1 e2 e3
  subst e1; subst e3
  have hl : (css.drop k).length = n - k := by rw [List.length_drop]; omega
  refine ⟨_, cap - k, by rw [hl], by rw [hl]; omega, fun cs h => hs cs (List.mem_of_mem_drop h), fun i cs hi => ?_⟩
  rw [List.getElem?_drop] at hi
  obtain ⟨b', o', e, hlt, hc2⟩ := hcell (k + i) cs hi
  injection e with e
  injection e with e4 e5
  subst e4; subst e5
  refine ⟨b, o + k * size, rfl, hlt, fun j u hj => ?_⟩
  have := hc2 j u hj
  rw [show o + k * size + i * size + j = o + (k + i) * size + j by rw [Nat.add_mul]; omega]
  exact this
theorem SlAt.addr {size : Nat} {a : Option Addr} {n cap : Nat} {css : List (List Value)} (h : SlAt w size (.slice a n cap) css) (h0 : 0 < css.length) : ∃ b o, a = some ⟨b, o, none⟩ ∧ b < w.heap.size := by
  obtain ⟨a', cap', hv, hc, hs, hcell⟩ := h
  injection hv with e1 e2 e3
  subst e1
  obtain ⟨b, o, e, hlt, _⟩ := hcell 0 css[0] (List.getElem?_eq_getElem h0)
  exact ⟨b, o, e, hlt⟩
end Go.Spec
/- pieces of slices of hashes (or of other rows), by run equations that hold in every world; also of nil ones -/
namespace Go.Spec
open Go.RowKit
variable {P : Program} {w : World}
theorem SlAt.takeR {size : Nat} {a : Option Addr} {n cap : Nat} {css : List (List Value)} (h : SlAt w size (.slice a n cap) css) (T E : TypeId) (hT : P.underlying T = some (.slice E)) (hE : (P.info? E).map (·.size) = some size) (ei : Int) (e : Nat) (hei : ei = e) (he : e ≤ css.length) :
    ∃ a2 c2, (∀ w', (Instr.sliceAt T (.slice a n cap) none (some (.int .i64 ei)) none).run P w' = .ok (.slice a2 e c2) w') ∧ SlAt w size (.slice a2 e c2) (css.take e) := by
  subst hei
  have hc : n ≤ cap ∧ css.length = n := by
    obtain ⟨a', cap', hv, hc, _⟩ := h
    injection hv with e1 e2 e3
    subst e3; exact ⟨by omega, e2.symm⟩
  cases hq : P.info? E with
  | none => simp [hq] at hE
  | some i =>
    have hi : i.size = size := by simpa [hq] using hE
    refine ⟨a, cap, fun w' => ?_, h.takeS e he⟩
    have hb : (0 : Int) ≤ (e : Int) ∧ (e : Int) ≤ (cap : Int) := by omega
    simp [Instr.sliceAt, Instr.slice, run_underlying hT, Instr.sliceBounds, Instr.sliceBound, asIntOf, Sem.run_bind, sizeOf, typeInfo, hq, hi, hb]
    have hec : e ≤ cap := by omega
    have hadd : Option.map (fun x : Addr => x.add 0) a = a := by
      cases a with
      | none => rfl
      | some ad => simp [Addr.add]
    simp [hec, hadd]
theorem SlAt.midR {size : Nat} {a : Option Addr} {n cap : Nat} {css : List (List Value)} (h : SlAt w size (.slice a n cap) css) (T E : TypeId) (hT : P.underlying T = some (.slice E)) (hE : (P.info? E).map (·.size) = some size) (ki ei : Int) (k e : Nat) (hki : ki = k) (hei : ei = e) (hk : k ≤ e) (he : e ≤ css.length) :
    ∃ a2 c2, (∀ w', (Instr.sliceAt T (.slice a n cap) (some (.int .i64 ki)) (some (.int .i64 ei)) none).run P w' = .ok (.slice a2 (e - k) c2) w') ∧ SlAt w size (.slice a2 (e - k) c2) ((css.take e).drop k) := by
  subst hki; subst hei
  have hc : n ≤ cap ∧ css.length = n := by
    obtain ⟨a', cap', hv, hc, _⟩ := h
    injection hv with e1 e2 e3
    subst e3; exact ⟨by omega, e2.symm⟩
  have ht := h.takeS e he
  have htl : (css.take e).length = e := by rw [List.length_take]; omega
  cases hq : P.info? E with
  | none => simp [hq] at hE
  | some i =>
    have hi : i.size = size := by simpa [hq] using hE
    have hb : (0 : Int) ≤ (e : Int) ∧ (e : Int) ≤ (cap : Int) := by omega
    have hb2 : (0 : Int) ≤ (k : Int) ∧ (k : Int) ≤ (e : Int) := by omega
    refine ⟨if cap = k then a else a.map (·.add (k * size)), cap - k, fun w' => ?_, ?_⟩
    · simp [Instr.sliceAt, Instr.slice, run_underlying hT, Instr.sliceBounds, Instr.sliceBound, asIntOf, Sem.run_bind, sizeOf, typeInfo, hq, hi, hb, hb2, hk]
      intro hx; exfalso; omega
    · by_cases hke : k = e
      · subst hke
        have e0 : (css.take k).drop k = [] := List.drop_eq_nil_of_le (by omega)
        rw [e0]
        exact ⟨(if cap = k then a else a.map (·.add (k * size))), cap - k, by simp, by simp, by simp, by simp⟩
      · obtain ⟨b, o, rfl, hlt⟩ := ht.addr (by omega)
        have hd := ht.dropS k (by omega)
        rw [if_neg (by omega)]
        simpa [Addr.add_lit] using hd
end Go.Spec
