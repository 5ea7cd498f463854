import Derived.Test.YtnfblddoafhdlaaCut03
set_option maxRecDepth 100000
namespace Go.Proofs.Ytnfblddoafhdlaa
open Go.RowKit Go.Spec
theorem Try.zeroHash (w : World) : (Instr.build 27 #[]).run Try.prog w = .ok (hv zero32) w := by kernel_rfl
theorem form_rd (l : List UInt8) : (rdB l = true → (numL (rdN l) ++ rdR l == l) = true ∧ rdN l < 18446744073709551616) ∧ (rdB l = false → rdN l = 0 ∧ rdR l = []) := by
  unfold rdB rdN rdR
  cases h : rd 0 l with
  | none => simp
  | some x =>
    obtain ⟨n, r⟩ := x
    obtain ⟨h1, h2⟩ := (rd_iff l n r).1 h
    simp only [Option.isSome_some, forall_const, Bool.true_eq_false, false_imp_iff, and_true, beq_iff_eq]
    exact ⟨h2.symm, h1⟩
theorem form_cut (l : List UInt8) : (cuB l = true → (numL (cuT l).length ++ (cuT l ++ cuR l) == l) = true ∧ (cuT l).length ≤ l.length) ∧ (cuB l = false → cuT l = [] ∧ cuR l = []) := by
  unfold cuB cuT cuR cutL
  cases h : rd 0 l with
  | none => simp
  | some x =>
    obtain ⟨n, r⟩ := x
    obtain ⟨h1, h2⟩ := (rd_iff l n r).1 h
    simp only
    by_cases hlt : r.length < n
    · simp [hlt]
    · simp only [hlt, if_false, Option.isSome_some, forall_const, Bool.true_eq_false, false_imp_iff, and_true, beq_iff_eq]
      have : (r.take n).length = n := by simp; omega
      refine ⟨?_, ?_⟩
      · rw [this, List.take_append_drop]; exact h2.symm
      · rw [this, h2, List.length_append]; omega
theorem form_un (l : List UInt8) : (unB l = true → (unT l ++ unR l == l) = true) ∧ (unB l = false → unT l = zero32 ∧ unR l = []) := by
  unfold unB unT unR
  by_cases h : l.length < 32
  · simp [h, show ¬ 32 ≤ l.length by omega]
  · simp [h, show 32 ≤ l.length by omega]
theorem chunks_back (r : List UInt8) : ∀ n, n * 32 ≤ r.length → (chunks r n).flatten ++ r.drop (n * 32) = r
  | 0, _ => by simp [chunks]
  | n + 1, h => by
    have ih := chunks_back r n (by omega)
    rw [chunks, List.flatten_append, List.flatten_singleton, List.append_assoc]
    conv => rhs; rw [← ih]
    congr 1
    rw [show (n + 1) * 32 = n * 32 + 32 by omega, ← List.drop_drop, List.take_append_drop]
theorem form_us (l : List UInt8) : (usB l = true → (hashesL (usX l) ++ usR l == l) = true) ∧ (usB l = false → usX l = [] ∧ usR l = []) := by
  unfold usB usX usR unhashesL
  cases h : rd 0 l with
  | none => simp
  | some x =>
    obtain ⟨n, r⟩ := x
    obtain ⟨h1, h2⟩ := (rd_iff l n r).1 h
    simp only
    by_cases hlt : 64 < n ∨ r.length < n * 32
    · simp [hlt]
    · simp only [hlt, if_false, Option.isSome_some, forall_const, Bool.true_eq_false, false_imp_iff, and_true, beq_iff_eq]
      rw [hashesL, chunks_length, if_neg (by omega), List.append_assoc, chunks_back r n (by omega)]
      exact h2.symm
end Go.Proofs.Ytnfblddoafhdlaa
