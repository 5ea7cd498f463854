/- digits to the base 16, plain -/
import Derived.Test.YtdllaenbkfajdaaDoorShaLaw
namespace Go.Spec
def digits : List UInt8 := [48, 49, 50, 51, 52, 53, 54, 55, 56, 57, 97, 98, 99, 100, 101, 102]
def dgt (n : Nat) : UInt8 := digits.getD n 0
def hexL (h : List UInt8) : List UInt8 := h.flatMap fun c => [dgt (c.toNat / 16), dgt (c.toNat % 16)]
/-- a digit's value -/
def dval (c : UInt8) : Option Nat := if 48 ≤ c.toNat ∧ c.toNat ≤ 57 then some (c.toNat - 48) else if 97 ≤ c.toNat ∧ c.toNat ≤ 102 then some (c.toNat - 87) else none
def byt (x y : Nat) : UInt8 := UInt8.ofNat (16 * x + y)
theorem byt_nat (x y : Nat) (h1 : x < 16) (h2 : y < 16) : (byt x y).toNat = 16 * x + y := UInt8.toNat_ofNat_of_lt' (by simp [UInt8.size]; omega)
theorem byt_back (c : UInt8) : byt (c.toNat / 16) (c.toNat % 16) = c := by
  unfold byt
  rw [show 16 * (c.toNat / 16) + c.toNat % 16 = c.toNat by omega]
  simp
def unhex : List UInt8 → Option (List UInt8)
  | a :: b :: l =>
    match dval a, dval b, unhex l with
    | some x, some y, some r => some (byt x y :: r)
    | _, _, _ => none
  | _ => some []
def parseL (s : List UInt8) : Option (List UInt8) := if s.length = 64 then unhex s else none
theorem dval_lt (c : UInt8) (n : Nat) (h : dval c = some n) : n < 16 := by
  unfold dval at h
  split at h
  · injection h with h; omega
  · split at h
    · injection h with h; omega
    · cases h
theorem dval_dgt (n : Nat) (h : n < 16) : dval (dgt n) = some n := by
  have : ∀ k : Fin 16, dval (dgt k.val) = some k.val := by decide +kernel
  exact this ⟨n, h⟩
theorem dgt_dval (c : UInt8) (n : Nat) (h : dval c = some n) : dgt n = c := by
  have : ∀ k : Fin 256, ∀ n, dval (UInt8.ofNat k.val) = some n → dgt n = UInt8.ofNat k.val := by
    intro k n hk
    have h2 : ∀ k : Fin 256, (match dval (UInt8.ofNat k.val) with | some m => decide (dgt m = UInt8.ofNat k.val) | none => true) = true := by decide +kernel
    have := h2 k
    rw [hk] at this
    simpa using this
  have hc := this ⟨c.toNat, c.toNat_lt⟩ n (by simpa using h)
  simpa using hc
theorem hexL_len (h : List UInt8) : (hexL h).length = 2 * h.length := by
  unfold hexL
  induction h with
  | nil => rfl
  | cons c l ih => simp only [List.flatMap_cons, List.length_append, ih]; simp; omega
theorem unhex_hex : ∀ h : List UInt8, unhex (hexL h) = some h
  | [] => rfl
  | c :: l => by
    have ih := unhex_hex l
    unfold hexL at *
    simp only [List.flatMap_cons, List.cons_append, List.nil_append, unhex]
    rw [ih, dval_dgt _ (by have := c.toNat_lt; omega), dval_dgt _ (by omega)]
    simp only [Option.some.injEq, List.cons.injEq, and_true]
    exact byt_back c
theorem unhex_len : ∀ (n : Nat) (s r : List UInt8), s.length = 2 * n → unhex s = some r → r.length = n
  | 0, s, r, hs, h => by
    have : s = [] := List.eq_nil_of_length_eq_zero (by omega)
    subst this; simp [unhex] at h; subst h; rfl
  | n + 1, s, r, hs, h => by
    match s, hs with
    | a :: b :: l, hs =>
      simp only [List.length_cons] at hs
      simp only [unhex] at h
      cases hx : dval a <;> cases hy : dval b <;> cases hz : unhex l <;> simp [hx, hy, hz] at h
      subst h
      have := unhex_len n l _ (by omega) hz
      simp; exact this
    | [a], hs => simp at hs; omega
    | [], hs => simp at hs
theorem hex_unhex : ∀ (n : Nat) (s r : List UInt8), s.length = 2 * n → unhex s = some r → hexL r = s
  | 0, s, r, hs, h => by
    have : s = [] := List.eq_nil_of_length_eq_zero (by omega)
    subst this; simp [unhex] at h; subst h; rfl
  | n + 1, s, r, hs, h => by
    match s, hs with
    | a :: b :: l, hs =>
      simp only [List.length_cons] at hs
      simp only [unhex] at h
      cases hx : dval a <;> cases hy : dval b <;> cases hz : unhex l <;> simp [hx, hy, hz] at h
      subst h
      rename_i x y z
      have ih := hex_unhex n l _ (by omega) hz
      have h1 := dval_lt a _ hx
      have h2 := dval_lt b _ hy
      have hn := byt_nat x y h1 h2
      unfold hexL at *
      rw [List.flatMap_cons, ih, hn, show (16 * x + y) / 16 = x by omega, show (16 * x + y) % 16 = y by omega, dgt_dval a _ hx, dgt_dval b _ hy]
      rfl
    | [a], hs => simp at hs; omega
    | [], hs => simp at hs
end Go.Spec
