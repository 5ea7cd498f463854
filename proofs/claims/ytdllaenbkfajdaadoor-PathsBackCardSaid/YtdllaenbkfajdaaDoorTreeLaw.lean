/- the root of leaves, plain -/
import Derived.Test.YtdllaenbkfajdaaDoorTreeSplit
import Derived.Test.YtdllaenbkfajdaaDoorTreeHash
namespace Go.Spec
theorem splitN_in (n : Nat) (h : 2 ≤ n) : 0 < splitN n ∧ splitN n < n := by
  obtain ⟨J, h1, h2, _⟩ := split_pow n h
  rw [h1]
  exact ⟨Nat.pow_pos (by omega), h2⟩
end Go.Spec
namespace Go.Proofs.YtdllaenbkfajdaaDoor
open Go.Spec
def rootF : Nat → List (List UInt8) → List UInt8
  | 0, _ => sumL []
  | f + 1, l => if l.length = 0 then sumL [] else if l.length = 1 then l.getD 0 [] else nodeL (rootF f (l.take (splitN l.length))) (rootF f (l.drop (splitN l.length)))
def rootL (l : List (List UInt8)) : List UInt8 := rootF l.length l
theorem rootF_eq : ∀ (f g : Nat) (l : List (List UInt8)), l.length ≤ f → l.length ≤ g → rootF f l = rootF g l
  | 0, 0, _, _, _ => rfl
  | 0, g + 1, l, h, _ => by rw [rootF, rootF, if_pos (by omega)]
  | f + 1, 0, l, _, h => by rw [rootF, rootF, if_pos (by omega)]
  | f + 1, g + 1, l, hf, hg => by
    rw [rootF, rootF]
    by_cases h0 : l.length = 0
    · rw [if_pos h0, if_pos h0]
    · rw [if_neg h0, if_neg h0]
      by_cases h1 : l.length = 1
      · rw [if_pos h1, if_pos h1]
      · rw [if_neg h1, if_neg h1]
        obtain ⟨h2, h3⟩ := splitN_in l.length (by omega)
        rw [rootF_eq f g (l.take _) (by rw [List.length_take]; omega) (by rw [List.length_take]; omega), rootF_eq f g (l.drop _) (by rw [List.length_drop]; omega) (by rw [List.length_drop]; omega)]
theorem rootL_nil : rootL [] = sumL [] := rfl
theorem rootL_one (x : List UInt8) : rootL [x] = x := rfl
theorem rootL_many (l : List (List UInt8)) (h : 2 ≤ l.length) : rootL l = nodeL (rootL (l.take (splitN l.length))) (rootL (l.drop (splitN l.length))) := by
  obtain ⟨h2, h3⟩ := splitN_in l.length h
  unfold rootL
  obtain ⟨f, hf⟩ : ∃ f, l.length = f + 1 := ⟨l.length - 1, by omega⟩
  have e : rootF l.length l = nodeL (rootF f (l.take (splitN l.length))) (rootF f (l.drop (splitN l.length))) := by
    conv => lhs; rw [hf, rootF, if_neg (by omega), if_neg (by omega)]
  rw [e, rootF_eq f _ (l.take _) (by rw [List.length_take]; omega) (Nat.le_refl _), rootF_eq f _ (l.drop _) (by rw [List.length_drop]; omega) (Nat.le_refl _)]
theorem rootL_len : ∀ (n : Nat) (l : List (List UInt8)), l.length ≤ n → (∀ x ∈ l, x.length = 32) → (rootL l).length = 32
  | 0, l, h, _ => by
    have : l = [] := List.eq_nil_of_length_eq_zero (by omega)
    subst this; exact sumL_len _
  | n + 1, l, h, h32 => by
    match l, h, h32 with
    | [], _, _ => exact sumL_len _
    | [x], _, h32 => exact h32 x (by simp)
    | x :: y :: r, _, _ => rw [rootL_many _ (by simp)]; exact nodeL_len _ _
end Go.Proofs.YtdllaenbkfajdaaDoor
