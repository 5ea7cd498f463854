/- ShaBack, plain: what Hex and Parse say of each other -/
import Derived.Test.YtdllaenbkfajdaaDoorShaParse
namespace Go.Proofs.YtdllaenbkfajdaaDoor
open Go.Spec
theorem pr_hex (h : List UInt8) (hh : h.length = 32) : prH (hexL h) = h ∧ prB (hexL h) = true := by
  unfold prH prB parseL
  rw [if_pos (by rw [hexL_len, hh]), unhex_hex]
  exact ⟨rfl, rfl⟩
theorem hex_pr (s : List UInt8) (h : prB s = true) : hexL (prH s) = s := by
  unfold prB at h
  unfold prH
  unfold parseL at *
  by_cases h64 : s.length = 64
  · rw [if_pos h64] at *
    cases hr : unhex s with
    | none => rw [hr] at h; cases h
    | some r => exact hex_unhex 32 s r (by omega) hr
  · rw [if_neg h64] at h; cases h
theorem pr_no (s : List UInt8) (h : prB s = false) : prH s = zero32 := by
  unfold prB at h
  unfold prH
  cases hp : parseL s with
  | none => rfl
  | some r => rw [hp] at h; cases h
theorem hex_ok (h : List UInt8) : ∀ c ∈ hexL h, (dval c).isSome = true := by
  intro c hc
  unfold hexL at hc
  rw [List.mem_flatMap] at hc
  obtain ⟨b, _, hb⟩ := hc
  have hlt := b.toNat_lt
  simp only [List.mem_cons, List.not_mem_nil, or_false] at hb
  rcases hb with rfl | rfl
  · rw [dval_dgt _ (by omega)]; rfl
  · rw [dval_dgt _ (by omega)]; rfl
/-- the digits with one that is another letter -/
theorem pr_set (h : List UInt8) (hh : h.length = 32) (k : Nat) (hk : k < 64) (x : UInt8) : prB ((hexL h).set k x) = (dval x).isSome := by
  have hl : ((hexL h).set k x).length = 64 := by rw [List.length_set, hexL_len, hh]
  unfold prB parseL
  rw [if_pos hl]
  cases hx : dval x with
  | none =>
    rw [unhex_bad 32 _ (by omega) k (by omega) (by rw [List.getElem_set_self]; exact hx)]
    rfl
  | some n =>
    rw [unhex_all _ hl (fun c hc => by
      rcases List.mem_or_eq_of_mem_set hc with h1 | h1
      · exact hex_ok h c h1
      · subst h1; rw [hx]; rfl)]
    rfl
theorem back_eq (h : List UInt8) (hh : h.length = 32) (k : Nat) (hk : k < 64) (x : UInt8) :
    (prH ((hexL h).set k x) == h) = ((dval x).isSome && ((hexL h).set k x == hexL h) || !(dval x).isSome && (h == zero32)) := by
  have hb := pr_set h hh k hk x
  cases hx : (dval x).isSome with
  | true =>
    rw [hx] at hb
    have h1 := hex_pr _ hb
    simp only [Bool.true_and, Bool.not_true, Bool.false_and, Bool.or_false]
    rw [Bool.eq_iff_iff]
    simp only [beq_iff_eq]
    constructor
    · intro e; rw [e] at h1; exact h1.symm
    · intro e; rw [e]; exact (pr_hex h hh).1
  | false =>
    rw [hx] at hb
    rw [pr_no _ hb]
    simp only [Bool.false_and, Bool.not_false, Bool.true_and, Bool.false_or]
    rw [Bool.eq_iff_iff]
    simp only [beq_iff_eq]
    exact eq_comm
theorem cut_set (t : List UInt8) (k : Nat) (hk : k < t.length) (x : UInt8) : t.take k ++ [x] ++ t.drop (k + 1) = t.set k x := by
  rw [List.set_eq_take_append_cons_drop, if_pos hk, List.append_assoc]; rfl
def digB (c : UInt8) : Bool := (dval c).isSome
theorem digB_eq (c : UInt8) : digB c = (decide (48 ≤ c.toNat) && decide (c.toNat ≤ 57) || decide (97 ≤ c.toNat) && decide (c.toNat ≤ 102)) := by
  unfold digB dval
  by_cases h1 : 48 ≤ c.toNat ∧ c.toNat ≤ 57
  · rw [if_pos h1]; simp [h1]
  · rw [if_neg h1]
    by_cases h2 : 97 ≤ c.toNat ∧ c.toNat ≤ 102
    · rw [if_pos h2]; simp [h2]
    · rw [if_neg h2]
      symm
      simp only [Option.isSome_none, Bool.or_eq_false_iff, Bool.and_eq_false_iff, decide_eq_false_iff_not]
      omega
end Go.Proofs.YtdllaenbkfajdaaDoor
