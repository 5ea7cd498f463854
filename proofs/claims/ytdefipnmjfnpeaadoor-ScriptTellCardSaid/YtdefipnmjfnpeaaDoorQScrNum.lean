/- numbers as words, plain: Itoa's digits are read back as the number, by the document's reading and by Atoi's -/
import Derived.Test.YtdefipnmjfnpeaaDoorQBase
import Derived.Lib.ItoaNum
import Derived.Lib.ItoaLen
import Derived.Lib.AtoiAll
set_option maxRecDepth 100000
namespace Go.Proofs.YtdefipnmjfnpeaaDoor
open Go.RowKit Go.Spec Go.Lib
/-- the value of a digit to the base 16; 0 of what is none -/
def valF (c : UInt8) : Nat := if 48 ≤ c.toNat ∧ c.toNat ≤ 57 then c.toNat - 48 else if 97 ≤ c.toNat ∧ c.toNat ≤ 102 then c.toNat - 87 else 0
theorem valF_lt (c : UInt8) : valF c < 16 := by unfold valF; split <;> (try split) <;> omega
/-- one digit more, as the document counts: below zero -/
def numF (n : Int) (c : UInt8) : Int := if n < (-9223372036854775807 - 1 + (valF c : Int)).tdiv 10 ∨ 9 < valF c then 0 else n * 10 - (valF c : Int)
def negW (w : List UInt8) : Bool := w.head? == some 45
def numS (w : List UInt8) : Int := (w.drop (if negW w then 1 else 0)).foldl numF 0
def numL (w : List UInt8) : Int := if negW w then numS w else wrap64 (-numS w)
theorem numF_range {n : Int} (c : UInt8) (h : -9223372036854775808 ≤ n ∧ n ≤ 0) : -9223372036854775808 ≤ numF n c ∧ numF n c ≤ 0 := by
  have hv := valF_lt c
  unfold numF
  split
  · omega
  · rename_i hh
    have h1 : ¬ n < (-9223372036854775807 - 1 + (valF c : Int)).tdiv 10 := fun g => hh (.inl g)
    have h2 : valF c ≤ 9 := Nat.le_of_not_lt fun g => hh (.inr g)
    have e : (-9223372036854775807 - 1 + (valF c : Int)).tdiv 10 = -((9223372036854775808 - (valF c : Int)) / 10) := by
      rw [show (-9223372036854775807 - 1 + (valF c : Int)) = -(9223372036854775808 - (valF c : Int)) by omega, Int.neg_tdiv, Int.tdiv_eq_ediv_of_nonneg (by omega)]
    rw [e] at h1
    omega
theorem numFold_range (l : List UInt8) {n : Int} (h : -9223372036854775808 ≤ n ∧ n ≤ 0) : -9223372036854775808 ≤ l.foldl numF n ∧ l.foldl numF n ≤ 0 := by
  induction l generalizing n with
  | nil => exact h
  | cons c r ih => exact ih (numF_range c h)
theorem numS_range (w : List UInt8) : -9223372036854775808 ≤ numS w ∧ numS w ≤ 0 := numFold_range _ (by omega)
theorem digit_nat (d : Nat) (h : d < 10) : (UInt8.ofNat (48 + d)).toNat = 48 + d := by
  rw [UInt8.toNat_ofNat']; omega
theorem valF_digit (d : Nat) (h : d < 10) : valF (UInt8.ofNat (48 + d)) = d := by
  unfold valF; rw [digit_nat d h, if_pos (by omega)]; omega
theorem numF_digit (n d : Nat) (h : d < 10) (hb : n * 10 + d ≤ 9223372036854775808) : numF (-(n : Int)) (UInt8.ofNat (48 + d)) = -((n * 10 + d : Nat) : Int) := by
  unfold numF
  rw [valF_digit d h]
  have e : (-9223372036854775807 - 1 + (d : Int)).tdiv 10 = -((9223372036854775808 - (d : Int)) / 10) := by
    rw [show (-9223372036854775807 - 1 + (d : Int)) = -(9223372036854775808 - (d : Int)) by omega, Int.neg_tdiv, Int.tdiv_eq_ediv_of_nonneg (by omega)]
  rw [e, if_neg (by omega)]
  omega
theorem decDigits_big {u : Nat} (h : ¬ u < 10) : decDigits u = decDigits (u / 10) ++ [UInt8.ofNat (48 + u % 10)] := by rw [decDigits, dif_neg h]
theorem num_digits (u : Nat) (h : u ≤ 9223372036854775808) : (decDigits u).foldl numF 0 = -(u : Int) := by
  induction u using Nat.strongRecOn with
  | _ u ih =>
    by_cases hu : u < 10
    · rw [decDigits_one hu]
      have := numF_digit 0 u hu (by omega)
      simpa using this
    · rw [decDigits_big hu, List.foldl_append, ih (u / 10) (by omega) (by omega)]
      have := numF_digit (u / 10) (u % 10) (by omega) (by omega)
      simp only [List.foldl_cons, List.foldl_nil]
      rw [this]; omega
/-- the digits' bytes -/
theorem decDigits_mem (u : Nat) : ∀ c ∈ decDigits u, 48 ≤ c.toNat ∧ c.toNat ≤ 57 := by
  induction u using Nat.strongRecOn with
  | _ u ih =>
    intro c hc
    by_cases hu : u < 10
    · rw [decDigits_one hu, List.mem_singleton] at hc
      subst hc
      rw [digit_nat u hu]; omega
    · rw [decDigits_big hu, List.mem_append, List.mem_singleton] at hc
      rcases hc with hc | rfl
      · exact ih (u / 10) (by omega) c hc
      · rw [digit_nat _ (by omega)]; omega
theorem decDigits_ne (u : Nat) : decDigits u ≠ [] := by
  intro h
  have := decDigits_length u
  have := nDigits_pos u
  rw [h] at *
  simp at *
  omega
theorem decDigits_not_neg (u : Nat) : negW (decDigits u) = false := by
  unfold negW
  cases h : decDigits u with
  | nil => rfl
  | cons c r =>
    have := decDigits_mem u c (by rw [h]; exact List.mem_cons_self ..)
    simp only [List.head?_cons]
    refine beq_eq_false_iff_ne.2 fun g => ?_
    injection g with g
    subst g
    simp at this
theorem num_itoa (n : Int) (h0 : -9223372036854775808 ≤ n) (h1 : n ≤ 9223372036854775807) : numL (itoa n) = n := by
  unfold numL itoa
  by_cases hn : n < 0
  · rw [if_pos hn]
    have e : negW (45 :: decDigits n.natAbs) = true := rfl
    rw [e, if_pos rfl]
    unfold numS
    rw [e, if_pos rfl, List.drop_one, List.tail_cons, num_digits _ (by omega)]
    omega
  · rw [if_neg hn, decDigits_not_neg]
    simp only [Bool.false_eq_true, if_false]
    unfold numS
    rw [decDigits_not_neg]
    simp only [Bool.false_eq_true, if_false, List.drop_zero]
    rw [num_digits _ (by omega), Int.neg_neg, Int.toNat_of_nonneg (by omega)]
    unfold wrap64; omega
theorem itoa_mem (n : Int) : ∀ c ∈ itoa n, (48 ≤ c.toNat ∧ c.toNat ≤ 57) ∨ c = 45 := by
  intro c hc
  unfold itoa at hc
  split at hc
  · rcases List.mem_cons.1 hc with rfl | h
    · exact .inr rfl
    · exact .inl (decDigits_mem _ c h)
  · exact .inl (decDigits_mem _ c hc)
theorem itoa_ne (n : Int) : itoa n ≠ [] := by
  unfold itoa
  split
  · simp
  · exact decDigits_ne _
/-- Atoi's reading -/
theorem parse_append (l : List UInt8) (acc u d : Nat) (h : parseUint10 acc l = .ok u) (hd : d < 10) (hb : u * 10 + d ≤ 9223372036854775808) : parseUint10 acc (l ++ [UInt8.ofNat (48 + d)]) = .ok (u * 10 + d) := by
  induction l generalizing acc with
  | nil =>
    simp only [parseUint10] at h
    injection h with h
    subst h
    rw [List.nil_append, parseUint10, digit_nat d hd, if_pos (by omega), if_neg (by omega), if_neg (by omega), parseUint10]
    congr 1; omega
  | cons c r ih =>
    rw [List.cons_append]
    rw [parseUint10] at h ⊢
    by_cases g1 : 48 ≤ c.toNat ∧ c.toNat ≤ 57
    · rw [if_pos g1] at h ⊢
      by_cases g2 : 1844674407370955162 ≤ acc
      · rw [if_pos g2] at h; cases h
      · rw [if_neg g2] at h ⊢
        by_cases g3 : 18446744073709551616 ≤ acc * 10 + (c.toNat - 48)
        · rw [if_pos g3] at h; cases h
        · rw [if_neg g3] at h ⊢
          exact ih _ h
    · rw [if_neg g1] at h; cases h
theorem parse_digits (u : Nat) (h : u ≤ 9223372036854775808) : parseUint10 0 (decDigits u) = .ok u := by
  induction u using Nat.strongRecOn with
  | _ u ih =>
    by_cases hu : u < 10
    · rw [decDigits_one hu, parseUint10, digit_nat u hu, if_pos (by omega), if_neg (by omega), if_neg (by omega), parseUint10]
      congr 1; omega
    · rw [decDigits_big hu, parse_append _ 0 (u / 10) (u % 10) (ih (u / 10) (by omega) (by omega)) (by omega) (by omega)]
      congr 1; omega
theorem atoi_itoa (n : Int) (h0 : -9223372036854775808 ≤ n) (h1 : n ≤ 9223372036854775807) : atoiAll (itoa n) = .ok n := by
  unfold itoa
  by_cases hn : n < 0
  · rw [if_pos hn]
    unfold atoiAll
    have e1 : (45 : UInt8).toNat = 45 := rfl
    simp only [e1]
    rw [if_pos (.inr trivial)]
    unfold parseMag
    rw [if_neg (decDigits_ne _), parse_digits _ (by omega)]
    simp only [not_true, false_and, if_false, true_and, if_true]
    rw [if_neg (by omega)]
    congr 1; omega
  · rw [if_neg hn]
    cases hc : decDigits n.toNat with
    | nil => exact absurd hc (decDigits_ne _)
    | cons c r =>
      have hm := decDigits_mem n.toNat c (by rw [hc]; exact List.mem_cons_self ..)
      unfold atoiAll
      simp only
      rw [if_neg (by omega), ← hc]
      unfold parseMag
      rw [if_neg (decDigits_ne _), parse_digits _ (by omega)]
      simp only
      rw [if_neg (by omega), if_neg (by omega), if_neg (by omega)]
      congr 1; omega
end Go.Proofs.YtdefipnmjfnpeaaDoor
