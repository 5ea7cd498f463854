/- trees.Split, speculumref04.Split -/
import Derived.Test.YtbpjlancjdbehaaDoorQBase
import Derived.Test.YtbpjlancjdbehaaDoorProg
set_option maxRecDepth 100000
namespace Go.Spec
/-- where so many leaves are parted -/
def splitN (n : Nat) : Nat := if n < 2 then 0 else 2 ^ Nat.log2 (n - 1)
theorem split_pow (n : Nat) (h : 2 ≤ n) : ∃ J, splitN n = 2 ^ J ∧ 2 ^ J < n ∧ n ≤ 2 * 2 ^ J := by
  refine ⟨Nat.log2 (n - 1), by rw [splitN, if_neg (by omega)], ?_, ?_⟩
  · have := Nat.log2_self_le (show n - 1 ≠ 0 by omega); omega
  · have := Nat.lt_log2_self (n := n - 1)
    rw [Nat.pow_succ] at this
    omega
theorem pow_lt (i J : Nat) (h : i < J) : 2 * 2 ^ i ≤ 2 ^ J := by
  have := Nat.pow_le_pow_right (n := 2) (by omega) (show i + 1 ≤ J by omega)
  rw [Nat.pow_succ] at this
  omega
end Go.Spec
namespace Go.Proofs.YtbpjlancjdbehaaDoor
open Go.RowKit Go.Spec
set_option maxHeartbeats 400000 in
theorem split_small (n : Int) (w : World) (h : n < 2) (h0 : -9223372036854775808 ≤ n) :
    Calls Tryd.prog 45 #[.int .i64 n] w fun e w' => e = .returned (.int .i64 0) ∧ w = w' := by
  have hd : decide (n < 2) = true := by simpa using h
  clear h0
  go_enter Tryd.func45, Tryd.ntmps45
  go_wp2
  go_ret
  exact ⟨rfl, rfl⟩
set_option maxHeartbeats 400000 in
theorem split_big (n : Nat) (w : World) (h : 2 ≤ n) (hn : n ≤ 9223372036854775807) :
    Calls Tryd.prog 45 #[.int .i64 (n : Int)] w fun e w' => e = .returned (.int .i64 (splitN n : Nat)) ∧ w = w' := by
  obtain ⟨J, hJ, hJ1, hJ2⟩ := split_pow n h
  have HJ := hid hJ; clear hJ
  have hd : decide ((n : Int) < 2) = false := by simp; omega
  have Hn := hid hn
  go_enter Tryd.func45, Tryd.ntmps45
  go_wp2
  go_loop [3] (fun k => ∃ i : Nat, i ≤ J ∧ k = .int .i64 ((2 ^ i : Nat) : Int)) (fun k => n - (intOf k).toNat)
  case atStart => exact ⟨0, by omega, by simp⟩
  case round =>
    obtain ⟨i, hi, rfl⟩ := hrel
    have hpos : 0 < 2 ^ i := Nat.pow_pos (by omega)
    by_cases hlt : i < J
    · have hp := pow_lt i J hlt
      have Hs := hid (show 2 ^ (i + 1) = 2 * 2 ^ i by rw [Nat.pow_succ]; omega)
      generalize 2 ^ i = p at *
      have hd2 : decide ((p : Int) < (n : Int) - (p : Int)) = true := by simp; omega
      go_wp2
      go_round
      case rel => exact ⟨i + 1, by omega, by rw [Hs.out]; go_num⟩
      case measure => simp [intOf]; omega
    · have hiJ : i = J := by omega
      subst hiJ
      generalize 2 ^ i = p at *
      have hd2 : decide ((p : Int) < (n : Int) - (p : Int)) = false := by simp; omega
      go_wp2
      go_ret
      exact ⟨by rw [HJ.out]; rfl, rfl⟩
set_option maxHeartbeats 400000 in
theorem rsplit_small (n : Int) (w : World) (h : n < 2) (h0 : -9223372036854775808 ≤ n) :
    Calls Tryd.prog 67 #[.int .i64 n] w fun e w' => e = .returned (.int .i64 0) ∧ w = w' := by
  have hd : decide (1 < n) = false := by simp; omega
  clear h0
  go_enter Tryd.func67, Tryd.ntmps67
  go_wp2
  go_loop [3, 4] (fun k m => k = .int .i64 0 ∧ m = .int .i64 1) (fun _ _ => 0)
  case atStart => exact ⟨rfl, rfl⟩
  case round =>
    obtain ⟨rfl, rfl⟩ := hrel
    go_wp2
    go_ret
    exact ⟨rfl, rfl⟩
set_option maxHeartbeats 400000 in
theorem rsplit_big (n : Nat) (w : World) (h : 2 ≤ n) (hn : n ≤ 9223372036854775807) :
    Calls Tryd.prog 67 #[.int .i64 (n : Int)] w fun e w' => e = .returned (.int .i64 (splitN n : Nat)) ∧ w = w' := by
  obtain ⟨J, hJ, hJ1, hJ2⟩ := split_pow n h
  have HJ := hid hJ; clear hJ
  have Hn := hid hn
  go_enter Tryd.func67, Tryd.ntmps67
  go_wp2
  go_loop [3, 4] (fun k m => ∃ i : Nat, i ≤ J + 1 ∧ ((i = 0 ∧ k = .int .i64 0 ∧ m = .int .i64 1) ∨ (∃ j : Nat, i = j + 1 ∧ k = .int .i64 ((2 ^ j : Nat) : Int) ∧ m = .int .i64 (wrap64 (((2 ^ j : Nat) : Int) * 2))))) (fun k _ => n - (intOf k).toNat)
  case atStart => exact ⟨0, by omega, .inl ⟨rfl, rfl, rfl⟩⟩
  case round =>
    obtain ⟨i, hi, hc⟩ := hrel
    rcases hc with ⟨rfl, rfl, rfl⟩ | ⟨j, rfl, rfl, rfl⟩
    · have hd2 : decide ((1 : Int) < (n : Int)) = true := by simp; omega
      go_wp2
      go_round
      case rel => exact ⟨1, by omega, .inr ⟨0, rfl, by simp, by simp [wrap64]⟩⟩
      case measure => simp [intOf]; omega
    · have hpos : 0 < 2 ^ j := Nat.pow_pos (by omega)
      by_cases hlt : j < J
      · have hp := pow_lt j J hlt
        have Hs := hid (show 2 ^ (j + 1) = 2 * 2 ^ j by rw [Nat.pow_succ]; omega)
        generalize 2 ^ j = p at *
        obtain ⟨q, hq⟩ : ∃ q, 2 * p = q := ⟨_, rfl⟩
        have e1 : wrap64 ((p : Int) * 2) = (q : Int) := by unfold wrap64; omega
        rw [e1]
        have hd2 : decide (q < n) = true := by simp; omega
        have hd3 : decide (0 < q) = true := by simp; omega
        have hq0 : 0 < q := by omega
        have Hq := hid hq
        clear hq e1
        go_wp2
        go_round
        case rel => exact ⟨j + 1 + 1, by omega, .inr ⟨j + 1, rfl, by rw [Hs.out, Hq.out], by rw [Hs.out, Hq.out]⟩⟩
        case measure => simp [intOf]; have := Hq.out; omega
      · have hjJ : j = J := by omega
        subst hjJ
        have hple : 2 ^ j ≤ 4611686018427387904 := by
          have h62 : j ≤ 62 := by
            rcases Nat.lt_or_ge 62 j with h1 | h1
            · have := Nat.pow_le_pow_right (n := 2) (by omega) h1
              omega
            · exact h1
          have := Nat.pow_le_pow_right (n := 2) (by omega) h62
          omega
        generalize 2 ^ j = p at *
        by_cases hbig : 2 * p < 9223372036854775808
        · obtain ⟨q, hq⟩ : ∃ q, 2 * p = q := ⟨_, rfl⟩
          have e1 : wrap64 ((p : Int) * 2) = (q : Int) := by unfold wrap64; omega
          rw [e1]
          have hd2 : decide (q < n) = false := by simp; omega
          clear e1
          go_wp2
          go_ret
          exact ⟨by rw [HJ.out]; rfl, rfl⟩
        · have e1 : wrap64 ((p : Int) * 2) = -9223372036854775808 := by unfold wrap64; omega
          rw [e1]
          have hd2 : decide ((-9223372036854775808 : Int) < (n : Int)) = true := by simp; omega
          clear e1
          go_wp2
          go_ret
          exact ⟨by rw [HJ.out]; rfl, rfl⟩
end Go.Proofs.YtbpjlancjdbehaaDoor
