/- gossip.count: a letter, and a number behind it -/
import Derived.Test.YtjpnlnbpaecciaaSgRow
set_option maxRecDepth 100000
namespace Go.Proofs.Ytjpnlnbpaecciaa
open Go.RowKit Go.Spec
/-- what stands behind a letter -/
def behind (l : List UInt8) (c : UInt8) : Option (List UInt8) := match l with
  | x :: r => if x = c then some r else none
  | [] => none
theorem behind_some {l r : List UInt8} {c : UInt8} (h : behind l c = some r) : l = c :: r := by
  unfold behind at h
  split at h
  · split at h
    · rename_i hx; injection h with h; rw [hx, h]
    · cases h
  · cases h
theorem behind_cons (r : List UInt8) (c : UInt8) : behind (c :: r) c = some r := by simp [behind]
/-- the tests of HasPrefix -/
def hasB (l : List UInt8) (c : UInt8) : Bool := (behind l c).isSome
set_option maxHeartbeats 4000000 in
theorem hasPrefix_any (l : List UInt8) (c : UInt8) (w : World) (hl : l.length ≤ 1000000000) :
    Calls Try.prog 99 #[sv l, sv [c]] w fun e w' => e = .returned (.bool (hasB l c)) ∧ Below w.heap.size w w' := by
  cases l with
  | nil =>
    go_enter Try.func99, Try.ntmps99
    go_wp2
    go_ret
    exact ⟨rfl, Below.refl _ _⟩
  | cons x r =>
    simp only [List.length_cons] at hl
    by_cases hx : x = c
    · subst hx
      have Hf := hid (show hasB (x :: r) x = true by simp [hasB, behind])
      go_enter Try.func99, Try.ntmps99
      go_wp2
      go_ret
      exact ⟨by rw [Hf.out]; rfl, Below.refl _ _⟩
    · have Hf := hid (show hasB (x :: r) c = false by simp [hasB, behind, hx])
      have hq : (x == c) = false := by simpa using hx
      go_enter Try.func99, Try.ntmps99
      go_wp2
      go_ret
      exact ⟨by rw [Hf.out]; rfl, Below.refl _ _⟩
def cutPV (l : List UInt8) (c : UInt8) : Value := match behind l c with
  | some r => .tuple #[sv r, .bool true]
  | none => .tuple #[sv l, .bool false]
set_option maxHeartbeats 4000000 in
theorem cutPrefix0_any (l : List UInt8) (c : UInt8) (w : World) (hl : l.length ≤ 1000000000) :
    Calls Try.prog 98 #[sv l, sv [c]] w fun e w' => e = .returned (cutPV l c) ∧ Below w.heap.size w w' := by
  have HP := hid (fun w0 => hasPrefix_any l c w0 hl)
  cases hb : behind l c with
  | none =>
    rw [show hasB l c = false by simp [hasB, hb]] at HP
    have Hf := hid (show cutPV l c = .tuple #[sv l, .bool false] by rw [cutPV, hb])
    go_enter Try.func98, Try.ntmps98
    go_wp2_with (go_at_call 99; refine (HP.out _).mono ?_; rintro e w1 ⟨rfl, hb1⟩)
    go_ret2
    exact ⟨by rw [Hf.out]; rfl, hb1⟩
  | some r =>
    rw [show hasB l c = true by simp [hasB, hb]] at HP
    have Hf := hid (show cutPV l c = .tuple #[sv r, .bool true] by rw [cutPV, hb])
    obtain rfl := behind_some hb
    simp only [List.length_cons] at hl
    clear hb
    go_enter Try.func98, Try.ntmps98
    go_wp2_with (go_at_call 99; refine (HP.out _).mono ?_; rintro e w1 ⟨rfl, hb1⟩)
    go_ret2
    exact ⟨by rw [Hf.out]; rfl, hb1⟩
set_option maxHeartbeats 4000000 in
theorem cutPrefix_any (l : List UInt8) (c : UInt8) (w : World) (hl : l.length ≤ 1000000000) :
    Calls Try.prog 90 #[sv l, sv [c]] w fun e w' => e = .returned (cutPV l c) ∧ Below w.heap.size w w' := by
  have HP := hid (fun w0 => cutPrefix0_any l c w0 hl)
  unfold cutPV at *
  cases hb : behind l c with
  | none =>
    rw [hb] at HP
    go_enter Try.func90, Try.ntmps90
    go_wp2_with (go_at_call 98; refine (HP.out _).mono ?_; rintro e w1 ⟨rfl, hb1⟩)
    go_ret2
    exact ⟨rfl, hb1⟩
  | some r =>
    rw [hb] at HP
    go_enter Try.func90, Try.ntmps90
    go_wp2_with (go_at_call 98; refine (HP.out _).mono ?_; rintro e w1 ⟨rfl, hb1⟩)
    go_ret2
    exact ⟨rfl, hb1⟩
/-- what count answers -/
def countN (l : List UInt8) (c : UInt8) : Nat := match behind l c with | some r => rdN r | none => 0
def countR (l : List UInt8) (c : UInt8) : List UInt8 := match behind l c with | some r => rdR r | none => []
def countB (l : List UInt8) (c : UInt8) : Bool := match behind l c with | some r => rdB r | none => false
set_option maxHeartbeats 4000000 in
theorem count_any (l : List UInt8) (c : UInt8) (w : World) (hl : l.length ≤ 1000000000) :
    Calls Try.prog 70 #[sv l, sv [c]] w fun e w' => e = .returned (.tuple #[.int .u64 (countN l c), sv (countR l c), .bool (countB l c)]) ∧ Below w.heap.size w w' := by
  have HP := hid (fun w0 => cutPrefix_any l c w0 hl)
  unfold cutPV countN countR countB at *
  cases hb : behind l c with
  | none =>
    rw [hb] at HP
    go_enter Try.func70, Try.ntmps70
    go_wp2_with (go_at_call 90; refine (HP.out _).mono ?_; rintro e w1 ⟨rfl, hb1⟩)
    go_ret3
    exact ⟨rfl, hb1⟩
  | some r =>
    rw [hb] at HP
    have hrl : r.length ≤ 1000000000 := by rw [behind_some hb] at hl; simp at hl; omega
    go_enter Try.func70, Try.ntmps70
    go_wp2_with (first
      | (go_at_call 90; refine (HP.out _).mono ?_; rintro e w1 ⟨rfl, hb1⟩)
      | (go_at_call 76; refine (read_gen r _ (by omega)).mono ?_; rintro e w2 ⟨rfl, hb2⟩))
    go_ret3
    exact ⟨rfl, bth hb1 hb2⟩
end Go.Proofs.Ytjpnlnbpaecciaa
