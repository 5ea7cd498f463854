/- pieces of slices of hashes -/
import Derived.Test.YtdefipnmjfnpeaaDoorQBase

set_option maxRecDepth 100000
namespace Go.Spec
open Go.RowKit
variable {w : World}
theorem SlAt.takeS {size : Nat} {a : Option Addr} {n cap : Nat} {css : List (List Value)} (h : SlAt w size (.slice a n cap) css) (k : Nat) (hk : k ≤ css.length) : SlAt w size (.slice a k cap) (css.take k) := by
  obtain ⟨a', cap', hv, hc, hs, hcell⟩ := h
  injection hv with e1 e2 e3
  subst e1; subst e3
  have hl : (css.take k).length = k := by rw [List.length_take]; omega
  refine ⟨a, cap, by rw [hl], by rw [hl]; omega, fun cs h => hs cs (List.mem_of_mem_take h), fun i cs hi => ?_⟩
  have hik : i < k := by
    have := (List.getElem?_eq_some_iff.1 hi).1
    rw [hl] at this; exact this
  rw [List.getElem?_take_of_lt hik] at hi
  exact hcell i cs hi
theorem SlAt.dropS {size : Nat} {b o : Nat} {n cap : Nat} {css : List (List Value)} (h : SlAt w size (.slice (some ⟨b, o, none⟩) n cap) css) (k : Nat) (hk : k < css.length) : SlAt w size (.slice (some ⟨b, o + k * size, none⟩) (n - k) (cap - k)) (css.drop k) := by
  obtain ⟨a', cap', hv, hc, hs, hcell⟩ := h
  injection hv with e1 e2 e3
  subst e1; subst e3
  have hl : (css.drop k).length = n - k := by rw [List.length_drop]; omega
  refine ⟨_, cap - k, by rw [hl], by rw [hl]; omega, fun cs h => hs cs (List.mem_of_mem_drop h), fun i cs hi => ?_⟩
  rw [List.getElem?_drop] at hi
  obtain ⟨b', o', e, hlt, hc2⟩ := hcell (k + i) cs hi
  injection e with e
  injection e with e4 e5
  subst e4; subst e5
  refine ⟨b, o + k * size, rfl, hlt, fun j u hj => ?_⟩
  have := hc2 j u hj
  rw [show o + k * size + i * size + j = o + (k + i) * size + j by rw [Nat.add_mul]; omega]
  exact this
theorem SlAt.addr {size : Nat} {a : Option Addr} {n cap : Nat} {css : List (List Value)} (h : SlAt w size (.slice a n cap) css) (h0 : 0 < css.length) : ∃ b o, a = some ⟨b, o, none⟩ ∧ b < w.heap.size := by
  obtain ⟨a', cap', hv, hc, hs, hcell⟩ := h
  injection hv with e1 e2 e3
  subst e1
  obtain ⟨b, o, e, hlt, _⟩ := hcell 0 css[0] (List.getElem?_eq_getElem h0)
  exact ⟨b, o, e, hlt⟩
end Go.Spec
