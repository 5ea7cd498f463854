/- What is put is read, and what is read was put: numbers as bytes, in plain Lean. -/
import Derived.Test.YtjpnlnbpaecciaaBase2
namespace Go.Spec
def rd (n : Nat) : List UInt8 → Option (Nat × List UInt8)
  | [] => none
  | c :: r => if n = 0 ∧ c.toNat = 128 ∨ 144115188075855872 ≤ n then none else
      if c.toNat < 128 then some (n * 128 + c.toNat % 128, r) else rd (n * 128 + c.toNat % 128) r
theorem hib_nat (n : Nat) : (hib n).toNat = n % 128 + 128 := by unfold hib; rw [UInt8.toNat_ofNat_of_lt' (by simp [UInt8.size]; omega)]
theorem lob_nat (n : Nat) : (lob n).toNat = n % 128 := by unfold lob; rw [UInt8.toNat_ofNat_of_lt' (by simp [UInt8.size]; omega)]
theorem hib_eq (m : Nat) (c : UInt8) (h : 128 ≤ c.toNat) : hib (m * 128 + c.toNat % 128) = c := by
  apply UInt8.toNat_inj.1
  have := c.toNat_lt
  rw [hib_nat]; omega
theorem lob_eq (m : Nat) (c : UInt8) (h : c.toNat < 128) : lob (m * 128 + c.toNat % 128) = c := by
  apply UInt8.toNat_inj.1
  rw [lob_nat]; omega
theorem rd_form : ∀ (l : List UInt8) (m n : Nat) (r : List UInt8), rd m l = some (n, r) → hiN m ++ l = numL n ++ r
  | [], m, n, r, h => by simp [rd] at h
  | c :: l, m, n, r, h => by
    rw [rd] at h
    split at h
    · cases h
    · rename_i h1
      split at h
      · rename_i h2
        injection h with h; injection h with h3 h4
        subst h3; subst h4
        rw [numL, show (m * 128 + c.toNat % 128) / 128 = m by omega, lob_eq m c h2]
        simp
      · rename_i h2
        have ih := rd_form l _ n r h
        rw [← ih]
        have hc := c.toNat_lt
        by_cases h0 : m * 128 + c.toNat % 128 = 0
        · exfalso; omega
        · rw [hiN_pos (m * 128 + c.toNat % 128) (by omega), show (m * 128 + c.toNat % 128) / 128 = m by omega, hib_eq m c (by omega)]
          simp
theorem rd_hi : ∀ (f m : Nat), m ≤ f → m < 18446744073709551616 → ∀ s, rd 0 (hiN m ++ s) = rd m s
  | 0, m, h, _, s => by
    have : m = 0 := by omega
    subst this; simp [hiN_zero]
  | f + 1, m, h, hm, s => by
    by_cases h0 : m = 0
    · subst h0; simp [hiN_zero]
    · rw [hiN_pos m (by omega), List.append_assoc, rd_hi f (m / 128) (by omega) (by omega)]
      simp only [List.singleton_append]
      rw [rd, if_neg (by rw [hib_nat]; omega), if_neg (by rw [hib_nat]; omega)]
      congr 1
      rw [hib_nat]; omega
theorem rd_num (n : Nat) (hn : n < 18446744073709551616) (r : List UInt8) : rd 0 (numL n ++ r) = some (n, r) := by
  rw [numL, List.append_assoc, rd_hi _ (n / 128) (Nat.le_refl _) (by omega)]
  simp only [List.singleton_append]
  rw [rd, if_neg (by rw [lob_nat]; omega), if_pos (by rw [lob_nat]; omega)]
  rw [lob_nat]
  congr 2
  omega
theorem rd_some : ∀ (l : List UInt8) (m n : Nat) (r : List UInt8), m < 18446744073709551616 → rd m l = some (n, r) → n < 18446744073709551616 ∧ r.length < l.length
  | [], m, n, r, _, h => by simp [rd] at h
  | c :: l, m, n, r, hm, h => by
    rw [rd] at h
    split at h
    · cases h
    · rename_i h1
      split at h
      · injection h with h; injection h with h2 h3
        subst h2; subst h3
        exact ⟨by omega, by simp⟩
      · have := rd_some l _ n r (by omega) h
        exact ⟨this.1, by simp; omega⟩
theorem rd_iff (l : List UInt8) (n : Nat) (r : List UInt8) : rd 0 l = some (n, r) ↔ n < 18446744073709551616 ∧ l = numL n ++ r := by
  constructor
  · intro h
    exact ⟨(rd_some l 0 n r (by omega) h).1, by simpa [hiN_zero] using rd_form l 0 n r h⟩
  · rintro ⟨h, rfl⟩
    exact rd_num n h r
theorem hiN_big : ∀ (f m : Nat), m ≤ f → ∀ c ∈ hiN m, 128 ≤ c.toNat
  | 0, m, h, c, hc => by
    have : m = 0 := by omega
    subst this; simp [hiN_zero] at hc
  | f + 1, m, h, c, hc => by
    by_cases h0 : m = 0
    · subst h0; simp [hiN_zero] at hc
    · rw [hiN_pos m (by omega)] at hc
      simp only [List.mem_append, List.mem_singleton] at hc
      rcases hc with hc | rfl
      · exact hiN_big f (m / 128) (by omega) c hc
      · rw [hib_nat]; omega
/-- the value of bytes, seven bits each -/
def val (l : List UInt8) : Nat := l.foldl (fun n c => n * 128 + c.toNat % 128) 0
theorem val_snoc (l : List UInt8) (c : UInt8) : val (l ++ [c]) = val l * 128 + c.toNat % 128 := by simp [val]
theorem val_hi : ∀ (f m : Nat), m ≤ f → val (hiN m) = m
  | 0, m, h => by
    have : m = 0 := by omega
    subst this; rfl
  | f + 1, m, h => by
    by_cases h0 : m = 0
    · subst h0; rfl
    · rw [hiN_pos m (by omega), val_snoc, val_hi f (m / 128) (by omega), hib_nat]; omega
theorem val_num (n : Nat) : val (numL n) = n := by
  rw [numL, val_snoc, val_hi _ (n / 128) (Nat.le_refl _), lob_nat]; omega
/-- k bytes of 128 or more ahead: what is read has more than k bytes -/
theorem rd_long (l : List UInt8) (n : Nat) (r : List UInt8) (k : Nat) (h : rd 0 l = some (n, r)) (hk : ∀ j (hj : j < l.length), j < k → 128 ≤ l[j].toNat) (hkl : k ≤ l.length) : k < (numL n).length ∧ k < l.length ∧ k ≤ 9 := by
  obtain ⟨h1, h2⟩ := (rd_iff l n r).1 h
  have hlen : (numL n).length = (hiN (n / 128)).length + 1 := by simp [numL]
  have h9 := numL_len n h1
  have hl : l.length = (numL n).length + r.length := by rw [h2]; simp
  have : k ≤ (hiN (n / 128)).length := by
    rcases Nat.lt_or_ge (hiN (n / 128)).length k with hgt | hle
    · exfalso
      have := hk (hiN (n / 128)).length (by omega) hgt
      have he : l[(hiN (n / 128)).length]? = some (lob n) := by rw [h2, numL]; simp
      rw [List.getElem?_eq_getElem (by omega)] at he
      injection he with he
      rw [he, lob_nat] at this
      omega
    · exact hle
  omega
/-- .. and where the next byte is below 128: just these -/
theorem rd_stop (l : List UInt8) (n : Nat) (r : List UInt8) (k : Nat) (h : rd 0 l = some (n, r)) (hk : ∀ j (hj : j < l.length), j < k → 128 ≤ l[j].toNat) (hkl : k < l.length) (hs : l[k].toNat < 128) : numL n = l.take (k + 1) := by
  obtain ⟨h1, h2⟩ := (rd_iff l n r).1 h
  have h3 := rd_long l n r k h hk (by omega)
  have hlen : (numL n).length = (hiN (n / 128)).length + 1 := by simp [numL]
  have hke : k = (hiN (n / 128)).length := by
    rcases Nat.lt_or_ge k (hiN (n / 128)).length with hlt | hge
    · exfalso
      have he : l[k]? = some ((hiN (n / 128))[k]) := by rw [h2, numL, List.append_assoc, List.getElem?_append_left hlt, List.getElem?_eq_getElem hlt]
      rw [List.getElem?_eq_getElem hkl] at he
      injection he with he
      have := hiN_big _ (n / 128) (Nat.le_refl _) ((hiN (n / 128))[k]) (List.getElem_mem hlt)
      rw [← he] at this
      omega
    · omega
  conv => rhs; rw [h2]
  rw [List.take_append_of_le_length (by omega), List.take_of_length_le (by omega)]
end Go.Spec
