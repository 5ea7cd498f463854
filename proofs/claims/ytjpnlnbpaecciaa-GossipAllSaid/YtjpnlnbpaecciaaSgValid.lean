import Derived.Test.YtjpnlnbpaecciaaSg
import Derived.Test.YtjpnlnbpaecciaaCodecMore
set_option maxRecDepth 100000
namespace Go.Proofs.Ytjpnlnbpaecciaa
open Go.RowKit Go.Spec
/-- may a signed head be? -/
def validB (z i : Int) (sig : List UInt8) (n : Nat) : Bool := decide (0 ≤ z) && decide (z ≤ 4096) && (decide (0 ≤ i) && decide (i < 8) && decide (sig.length = 16384) && decide (n = 3))
set_option maxHeartbeats 2000000 in
theorem valid_any (z i : Int) (root sig : List UInt8) (a : Option Addr) (n cap : Nat) (w : World) (hr : root.length = 32) :
    Calls Try.prog 21 #[.agg (sgA z root i sig (.slice a n cap))] w fun e w' => e = .returned (.bool (validB z i sig n)) ∧ Below w.heap.size w w' := by
  rcases Decidable.em (0 ≤ z) with h1 | h1
  rotate_left
  · have d1 : decide (0 ≤ z) = false := by simpa using h1
    have Hf := hid (show validB z i sig n = false by simp [validB, h1])
    clear h1
    go_enter Try.func21, Try.ntmps21
    go_wp2
    go_ret
    exact ⟨by rw [Hf.out]; rfl, (Below.refl _ _).alloc (Nat.le_refl _) _⟩
  have d1 : decide (0 ≤ z) = true := by simpa using h1
  rcases Decidable.em (z ≤ 4096) with h2 | h2
  rotate_left
  · have d2 : decide (z ≤ 4096) = false := by simpa using h2
    have Hf := hid (show validB z i sig n = false by simp [validB, h2])
    clear h1 h2
    go_enter Try.func21, Try.ntmps21
    go_wp2
    go_ret
    exact ⟨by rw [Hf.out]; rfl, (Below.refl _ _).alloc (Nat.le_refl _) _⟩
  have d2 : decide (z ≤ 4096) = true := by simpa using h2
  rcases Decidable.em (0 ≤ i) with h3 | h3
  rotate_left
  · have d3 : decide (0 ≤ i) = false := by simpa using h3
    have Hf := hid (show validB z i sig n = false by simp [validB, h3])
    clear h1 h2 h3
    go_enter Try.func21, Try.ntmps21
    go_wp2
    go_ret
    exact ⟨by rw [Hf.out]; rfl, (Below.refl _ _).alloc (Nat.le_refl _) _⟩
  have d3 : decide (0 ≤ i) = true := by simpa using h3
  rcases Decidable.em (i < 8) with h4 | h4
  rotate_left
  · have d4 : decide (i < 8) = false := by simpa using h4
    have Hf := hid (show validB z i sig n = false by simp [validB, h4])
    clear h1 h2 h3 h4
    go_enter Try.func21, Try.ntmps21
    go_wp2
    go_ret
    exact ⟨by rw [Hf.out]; rfl, (Below.refl _ _).alloc (Nat.le_refl _) _⟩
  have d4 : decide (i < 8) = true := by simpa using h4
  by_cases h5 : sig.length = 16384
  · have d5 : ((sig.length : Int) == 16384) = true := by simp; omega
    by_cases h6 : n = 3
    · have Hf := hid (show validB z i sig n = true by simp [validB, h1, h2, h3, h4, h5, h6])
      have d6 : ((n : Int) == 3) = true := by simp; omega
      clear h1 h2 h3 h4 h5 h6
      go_enter Try.func21, Try.ntmps21
      go_wp2
      go_ret
      exact ⟨by rw [Hf.out]; rfl, (Below.refl _ _).alloc (Nat.le_refl _) _⟩
    · have Hf := hid (show validB z i sig n = false by simp [validB, h6])
      have d6 : ((n : Int) == 3) = false := by simp; omega
      clear h1 h2 h3 h4 h5 h6
      go_enter Try.func21, Try.ntmps21
      go_wp2
      go_ret
      exact ⟨by rw [Hf.out]; rfl, (Below.refl _ _).alloc (Nat.le_refl _) _⟩
  · have Hf := hid (show validB z i sig n = false by simp [validB, h5])
    have d5 : ((sig.length : Int) == 16384) = false := by simp; omega
    clear h1 h2 h3 h4 h5
    go_enter Try.func21, Try.ntmps21
    go_wp2
    go_ret
    exact ⟨by rw [Hf.out]; rfl, (Below.refl _ _).alloc (Nat.le_refl _) _⟩
set_option maxHeartbeats 2000000 in
theorem rvalid_any (z i : Int) (root sig : List UInt8) (a : Option Addr) (n cap : Nat) (w : World) (hr : root.length = 32) :
    Calls Try.prog 57 #[.agg (sgA z root i sig (.slice a n cap))] w fun e w' => e = .returned (.bool (validB z i sig n)) ∧ Below w.heap.size w w' := by
  rcases Decidable.em (0 ≤ z) with h1 | h1
  rotate_left
  · have d1 : decide (0 ≤ z) = false := by simpa using h1
    have Hf := hid (show validB z i sig n = false by simp [validB, h1])
    clear h1
    go_enter Try.func57, Try.ntmps57
    go_wp2
    go_ret
    exact ⟨by rw [Hf.out]; rfl, (Below.refl _ _).alloc (Nat.le_refl _) _⟩
  have d1 : decide (0 ≤ z) = true := by simpa using h1
  rcases Decidable.em (z ≤ 4096) with h2 | h2
  rotate_left
  · have d2 : decide (z ≤ 4096) = false := by simpa using h2
    have Hf := hid (show validB z i sig n = false by simp [validB, h2])
    clear h1 h2
    go_enter Try.func57, Try.ntmps57
    go_wp2
    go_ret
    exact ⟨by rw [Hf.out]; rfl, (Below.refl _ _).alloc (Nat.le_refl _) _⟩
  have d2 : decide (z ≤ 4096) = true := by simpa using h2
  rcases Decidable.em (0 ≤ i) with h3 | h3
  rotate_left
  · have d3 : decide (0 ≤ i) = false := by simpa using h3
    have Hf := hid (show validB z i sig n = false by simp [validB, h3])
    clear h1 h2 h3
    go_enter Try.func57, Try.ntmps57
    go_wp2
    go_ret
    exact ⟨by rw [Hf.out]; rfl, (Below.refl _ _).alloc (Nat.le_refl _) _⟩
  have d3 : decide (0 ≤ i) = true := by simpa using h3
  rcases Decidable.em (i ≤ 7) with h4 | h4
  rotate_left
  · have d4 : decide (i ≤ 7) = false := by simpa using h4
    have Hf := hid (show validB z i sig n = false by simp [validB]; omega)
    clear h1 h2 h3 h4
    go_enter Try.func57, Try.ntmps57
    go_wp2
    go_ret
    exact ⟨by rw [Hf.out]; rfl, (Below.refl _ _).alloc (Nat.le_refl _) _⟩
  have d4 : decide (i ≤ 7) = true := by simpa using h4
  by_cases h5 : sig.length = 16384
  · have d5 : ((sig.length : Int) == 16384) = true := by simp; omega
    by_cases h6 : n = 3
    · have Hf := hid (show validB z i sig n = true by simp [validB, h1, h2, h3, h5, h6]; omega)
      have d6 : ((n : Int) == 3) = true := by simp; omega
      clear h1 h2 h3 h4 h5 h6
      go_enter Try.func57, Try.ntmps57
      go_wp2
      go_ret
      exact ⟨by rw [Hf.out]; rfl, (Below.refl _ _).alloc (Nat.le_refl _) _⟩
    · have Hf := hid (show validB z i sig n = false by simp [validB, h6])
      have d6 : ((n : Int) == 3) = false := by simp; omega
      clear h1 h2 h3 h4 h5 h6
      go_enter Try.func57, Try.ntmps57
      go_wp2
      go_ret
      exact ⟨by rw [Hf.out]; rfl, (Below.refl _ _).alloc (Nat.le_refl _) _⟩
  · have Hf := hid (show validB z i sig n = false by simp [validB, h5])
    have d5 : ((sig.length : Int) == 16384) = false := by simp; omega
    clear h1 h2 h3 h4 h5
    go_enter Try.func57, Try.ntmps57
    go_wp2
    go_ret
    exact ⟨by rw [Hf.out]; rfl, (Below.refl _ _).alloc (Nat.le_refl _) _⟩
end Go.Proofs.Ytjpnlnbpaecciaa
