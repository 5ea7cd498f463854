/- bits.Bit, speculumref01.Bit -/
import Derived.Test.YtchpoggegdocpaaDoorBits
import Derived.Test.YtchpoggegdocpaaDoorShaLaid
set_option maxRecDepth 100000
namespace Go.Proofs.YtchpoggegdocpaaDoor
open Go.RowKit Go.Spec
def bitL (d : List UInt8) (i : Nat) : Nat := (d.getD (i / 8) 0).toNat / 2 ^ (7 - i % 8) % 2
theorem bitL_lt (d : List UInt8) (i : Nat) : bitL d i < 2 := Nat.mod_lt _ (by omega)
theorem and1 (c : Nat) (hc : c < 256) : bits .and .u8 (c : Int) 1 = (c : Int) % 2 := by
  have := bits_mask .u8 8 (by decide) wraps_u8 1 (by decide) (c : Int) (by omega) (by omega)
  simpa using this
set_option maxHeartbeats 1000000 in
theorem bit_any (d : List UInt8) (i : Nat) (w : World) (hd : d.length = 32) (hi : i < 256) :
    Calls Tryd.prog 37 #[sv d, .int .i64 (i : Int)] w fun e w' => e = .returned (.int .i64 (bitL d i : Int)) ∧ w = w' := by
  obtain ⟨q, hq⟩ : ∃ q, i / 8 = q := ⟨_, rfl⟩
  obtain ⟨r, hr⟩ : ∃ r, i % 8 = r := ⟨_, rfl⟩
  obtain ⟨s, hs⟩ : ∃ s, 7 - r = s := ⟨_, rfl⟩
  have eq : (i : Int) / 8 = (q : Int) := by omega
  have er : (i : Int) % 8 = (r : Int) := by omega
  have es : 7 - (r : Int) = (s : Int) := by omega
  have hql : q < d.length := by omega
  have hbit := hid (show bitL d i = d[q].toNat / 2 ^ s % 2 by unfold bitL; rw [hq, hr, hs, List.getD_eq_getElem?_getD, List.getElem?_eq_getElem hql]; rfl)
  rw [hbit.out]
  have d0 : decide ((i : Int) < 0) = false := by simp
  have d1 : decide (d.length ≤ q) = false := by simp; omega
  have hq32 : (q : Int) < (d.length : Int) := by omega
  have hs7 : s ≤ 7 := by omega
  have hc := d[q].toNat_lt
  have hdv : d[q].toNat / 2 ^ s < 256 := Nat.lt_of_le_of_lt (Nat.div_le_self _ _) hc
  have ha : bits .and .u8 ((d[q].toNat : Int) / 2 ^ s) 1 = ((d[q].toNat / 2 ^ s % 2 : Nat) : Int) := by
    have := and1 _ hdv
    push_cast at this ⊢
    exact this
  have hx2 : d[q].toNat / 2 ^ s % 2 < 2 := Nat.mod_lt _ (by omega)
  clear hdv
  generalize d[q].toNat / 2 ^ s % 2 = X at *
  have hgd : d[q]?.getD 0 = d[q] := by rw [List.getElem?_eq_getElem hql]; rfl
  have i0 : (0 : Int) ≤ (i : Int) := by omega
  clear hq hr hs hbit hd
  go_enter Tryd.func37, Tryd.ntmps37
  go_wp2_with fail
  go_ret
  exact ⟨rfl, rfl⟩
set_option maxHeartbeats 1000000 in
theorem rbit_any (d : List UInt8) (i : Nat) (w : World) (hd : d.length = 32) (hi : i < 256) :
    Calls Tryd.prog 40 #[sv d, .int .i64 (i : Int)] w fun e w' => e = .returned (.int .i64 (bitL d i : Int)) ∧ w = w' := by
  obtain ⟨q, hq⟩ : ∃ q, i / 8 = q := ⟨_, rfl⟩
  obtain ⟨r, hr⟩ : ∃ r, i % 8 = r := ⟨_, rfl⟩
  have eq : (i : Int) / 8 = (q : Int) := by omega
  have er : (i : Int) % 8 = (r : Int) := by omega
  have hql : q < d.length := by omega
  have hr7 : r ≤ 7 := by omega
  have Hbit := hid (show bitL d i = d[q].toNat / 2 ^ (7 - r) % 2 by unfold bitL; rw [hq, hr, List.getD_eq_getElem?_getD, List.getElem?_eq_getElem hql]; rfl)
  have d0 : decide ((i : Int) < 0) = false := by simp
  have d1 : decide (d.length ≤ q) = false := by simp; omega
  have hq32 : (q : Int) < (d.length : Int) := by omega
  have hgd : d[q]?.getD 0 = d[q] := by rw [List.getElem?_eq_getElem hql]; rfl
  have hclt := d[q].toNat_lt
  have i0 : (0 : Int) ≤ (i : Int) := by omega
  clear hq hr hd
  go_enter Tryd.func40, Tryd.ntmps40
  go_wp2_with fail
  go_loop [5, 6] (fun b k => ∃ j : Nat, r ≤ j ∧ j ≤ 7 ∧ k = .int .i64 (j : Int) ∧ b = .int .u8 ((d[q].toNat / 2 ^ (j - r) : Nat) : Int)) (fun _ k => 7 - (intOf k).toNat)
  case atStart => exact ⟨r, Nat.le_refl _, hr7, congrArg (Value.int .i64) er, by simp⟩
  case round =>
    obtain ⟨j, hj0, hj7, rfl, rfl⟩ := hrel
    have hX : d[q].toNat / 2 ^ (j - r) < 256 := Nat.lt_of_le_of_lt (Nat.div_le_self _ _) hclt
    by_cases hlt : j < 7
    · have hdj : decide ((j : Int) < 7) = true := by simp; omega
      have Hn := hid (show d[q].toNat / 2 ^ (j - r) / 2 = d[q].toNat / 2 ^ (j + 1 - r) by rw [Nat.div_div_eq_div_mul, ← Nat.pow_succ]; congr 2; omega)
      generalize d[q].toNat / 2 ^ (j - r) = X at *
      go_wp2
      go_round
      case rel => exact ⟨j + 1, by omega, by omega, by go_num, by rw [← Hn.out]; go_num⟩
      case measure => simp [intOf]; omega
    · obtain rfl : j = 7 := by omega
      have hdj : decide ((7 : Int) < 7) = false := by decide
      generalize d[q].toNat / 2 ^ (7 - r) = X at *
      have hX2 : X % 2 < 2 := Nat.mod_lt _ (by omega)
      go_wp2
      go_ret
      exact ⟨by rw [Hbit.out]; go_num, rfl⟩
end Go.Proofs.YtchpoggegdocpaaDoor
