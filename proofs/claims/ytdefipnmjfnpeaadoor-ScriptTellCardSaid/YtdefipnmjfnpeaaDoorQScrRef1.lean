/- the document's script: word, numbers, texts, digit -/
import Derived.Test.YtdefipnmjfnpeaaDoorQScrLine

set_option maxRecDepth 100000
namespace Go.Proofs.YtdefipnmjfnpeaaDoor
open Go.RowKit Go.Spec
theorem rword_any (k : Int) (w : World) : Calls Tryd.prog 24 #[.int .i64 k] w fun e w' => e = .returned (sv (if isK k then wordT k.toNat else [])) ∧ w' = w := by
  by_cases h : isK k
  · rw [if_pos h]
    rcases kinds k h with rfl | rfl | rfl | rfl | rfl | rfl | rfl | rfl | rfl | rfl | rfl | rfl | rfl
    all_goals
      go_enter Tryd.func24, Tryd.ntmps24
      go_wp2_with fail
      go_ret
      exact ⟨rfl, rfl⟩
  · rw [if_neg h]
    unfold isK at h
    have h1 : ¬ k = 1 := by omega
    have h2 : ¬ k = 2 := by omega
    have h3 : ¬ k = 3 := by omega
    have h4 : ¬ k = 4 := by omega
    have h5 : ¬ k = 5 := by omega
    have h6 : ¬ k = 6 := by omega
    have h7 : ¬ k = 7 := by omega
    have h8 : ¬ k = 8 := by omega
    have h9 : ¬ k = 9 := by omega
    have h10 : ¬ k = 10 := by omega
    have h11 : ¬ k = 11 := by omega
    have h12 : ¬ k = 12 := by omega
    have h13 : ¬ k = 13 := by omega
    clear h
    go_enter Tryd.func24, Tryd.ntmps24
    go_wp2_with fail
    go_ret
    exact ⟨rfl, rfl⟩
theorem rnum_any (k : Int) (h : isK k) (w : World) : Calls Tryd.prog 25 #[.int .i64 k] w fun e w' => e = .returned (.int .i64 (numsT k.toNat : Nat)) ∧ w' = w := by
  rcases kinds k h with rfl | rfl | rfl | rfl | rfl | rfl | rfl | rfl | rfl | rfl | rfl | rfl | rfl
  all_goals
    go_enter Tryd.func25, Tryd.ntmps25
    go_wp2_with fail
    go_ret
    exact ⟨rfl, rfl⟩
theorem rtexts_any (k : Int) (h : isK k) (w : World) : Calls Tryd.prog 27 #[.int .i64 k] w fun e w' => e = .returned (.bool (textT k.toNat)) ∧ w' = w := by
  rcases kinds k h with rfl | rfl | rfl | rfl | rfl | rfl | rfl | rfl | rfl | rfl | rfl | rfl | rfl
  all_goals
    go_enter Tryd.func27, Tryd.ntmps27
    go_wp2_with fail
    go_ret
    exact ⟨rfl, rfl⟩
theorem hexd_slice (a : Nat) (ha : a < 16) (w : World) :
    (Instr.slice 9 (.string ⟨#[48, 49, 50, 51, 52, 53, 54, 55, 56, 57, 97, 98, 99, 100, 101, 102]⟩) (some (.int .i64 (a : Int))) (some (.int .i64 ((a + 1 : Nat) : Int))) none).run Tryd.prog w = .ok (sv [hexd a]) w := by
  have h16 : ∀ k : Fin 16, ((⟨#[48, 49, 50, 51, 52, 53, 54, 55, 56, 57, 97, 98, 99, 100, 101, 102]⟩ : ByteArray).extract k.val (k.val + 1)) = mkS [hexd k.val] := by decide +kernel
  have hk := h16 ⟨a, ha⟩
  simp only at hk
  have hz : (⟨#[48, 49, 50, 51, 52, 53, 54, 55, 56, 57, 97, 98, 99, 100, 101, 102]⟩ : ByteArray).size = 16 := by decide
  have c1 : (0 : Int) ≤ ((a + 1 : Nat) : Int) ∧ ((a + 1 : Nat) : Int) ≤ ((16 : Nat) : Int) := by omega
  have c2 : (0 : Int) ≤ (a : Int) ∧ (a : Int) ≤ (((a + 1 : Nat) : Int).toNat : Int) := by omega
  simp only [Instr.slice, Sem.run_bind, run_underlying Tryd.underlying9, Result.andThen_ok, Instr.sliceBounds, Instr.sliceBound, asIntOf, Sem.run_pure, hz, Option.isSome_none, Bool.false_eq_true, if_false]
  rw [if_pos c1]
  simp only [Sem.run_pure, Result.andThen_ok]
  rw [if_pos c2]
  simp only [Sem.run_pure, Result.andThen_ok, Int.toNat_natCast, hk]
theorem rdigit_any (a : Nat) (ha : a < 16) (w : World) : Calls Tryd.prog 39 #[.int .i64 (a : Int)] w fun e w' => e = .returned (sv [hexd a]) ∧ w' = w := by
  have hs := hexd_slice a ha
  obtain ⟨m, hm⟩ : ∃ m, a + 1 = m := ⟨_, rfl⟩
  have he : (a : Int) + 1 = (m : Int) := by omega
  have hmI : (m : Int) ≤ 16 := by omega
  rw [hm] at hs
  clear hm ha
  generalize hexd a = D at *
  go_enter Tryd.func39, Tryd.ntmps39
  go_wp2_with fail
  go_ret
  exact ⟨rfl, rfl⟩
end Go.Proofs.YtdefipnmjfnpeaaDoor
