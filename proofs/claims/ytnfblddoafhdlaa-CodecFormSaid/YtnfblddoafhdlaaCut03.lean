import Derived.Test.YtnfblddoafhdlaaBack03
set_option maxRecDepth 100000
namespace Go.Spec
theorem rd_allbig : ∀ (l : List UInt8) (m : Nat), (∀ c ∈ l, 128 ≤ c.toNat) → rd m l = none
  | [], _, _ => rfl
  | c :: l, m, h => by
    have hc := h c List.mem_cons_self
    rw [rd]
    split
    · rfl
    · rw [if_neg (by omega)]
      exact rd_allbig l _ (fun x hx => h x (List.mem_cons_of_mem _ hx))
theorem rd_cut (n : Nat) (hn : n < 18446744073709551616) (r : List UInt8) (k : Nat) : (k < (numL n).length ∧ rd 0 ((numL n ++ r).take k) = none) ∨ (∃ j, k = (numL n).length + j ∧ rd 0 ((numL n ++ r).take k) = some (n, r.take j)) := by
  have hlen : (numL n).length = (hiN (n / 128)).length + 1 := by simp [numL]
  rcases Nat.lt_or_ge k (numL n).length with h | h
  · left
    refine ⟨h, rd_allbig _ _ fun c hc => ?_⟩
    rw [List.take_append_of_le_length (by omega), numL, List.take_append_of_le_length (by omega)] at hc
    exact hiN_big _ (n / 128) (Nat.le_refl _) c (List.mem_of_mem_take hc)
  · right
    refine ⟨k - (numL n).length, by omega, ?_⟩
    rw [List.take_append, List.take_of_length_le (by omega)]
    exact rd_num n hn _
end Go.Spec
namespace Go.Proofs.Ytnfblddoafhdlaa
open Go.RowKit Go.Spec
theorem cutL_cut (s : List UInt8) (h : s.length < 18446744073709551616) (k : Nat) (hk : k < (numL s.length ++ s).length) : cutL ((numL s.length ++ s).take k) = none := by
  rw [List.length_append] at hk
  rcases rd_cut s.length h s k with ⟨h1, h2⟩ | ⟨j, h1, h2⟩
  · rw [cutL, h2]
  · rw [cutL, h2]
    simp only
    rw [if_pos (by rw [List.length_take]; omega)]
theorem unhashesL_cut (hs : List (List UInt8)) (h : ∀ x ∈ hs, x.length = 32) (hl : hs.length ≤ 64) (k : Nat) (hk : k < (hashesL hs).length) : unhashesL ((hashesL hs).take k) = none := by
  have hfl := flatten_len h
  rw [hashesL, if_neg (by omega)] at hk ⊢
  rw [List.length_append, hfl] at hk
  rcases rd_cut hs.length (by omega) hs.flatten k with ⟨h1, h2⟩ | ⟨j, h1, h2⟩
  · rw [unhashesL, h2]
  · rw [unhashesL, h2]
    simp only
    rw [if_pos (by rw [List.length_take, hfl]; omega)]
theorem cut_none (t : List UInt8) (w : World) (ht : cutL t = none) (hn : t.length ≤ 9223372036854775807) :
    Calls Try.prog 19 #[sv t] w fun e w' => e = .returned (.tuple #[sv [], sv [], .bool false]) ∧ Below w.heap.size w w' :=
  (cut_any t w hn).mono fun _ _ ⟨a, b⟩ => ⟨by rw [a, ht]; rfl, b⟩
theorem unhashes_none (t : List UInt8) (w : World) (ht : unhashesL t = none) (hn : t.length ≤ 9223372036854775807) :
    Calls Try.prog 23 #[sv t] w fun e w' => e = .returned (.tuple #[.slice none 0 0, sv [], .bool false]) ∧ Below w.heap.size w w' :=
  (unhashes_any t w hn).mono fun _ _ h => ⟨h.no ht, h.below⟩
theorem hashesL_pos (hs : List (List UInt8)) (hl : hs.length ≤ 64) : 0 < (hashesL hs).length := by
  rw [hashesL, if_neg (by omega), List.length_append]
  have := numL_pos hs.length
  omega
set_option maxHeartbeats 2000000 in
theorem cut_law (l : List UInt8) (v : Value) (hs : List (List UInt8)) (at_ : Nat) (w : World) (hl : l.length ≤ 9223372036854775807) (hv : SlAt w 32 v (hcs hs)) (hh : hs.length ≤ 9223372036854775807) (hat : at_ < 65536) :
    Calls Try.prog 6 #[sv l, v, .int .u16 at_] w fun e w' => e = .returned (.bool true) ∧ Below w.heap.size w w' := by
  have HB := Below.refl w.heap.size w
  obtain ⟨a, cap, rfl, hcap⟩ := hv.formH
  by_cases h1 : 500 < l.length
  · have hd : decide ((500 : Int) < (l.length : Int)) = true := by simp; omega
    clear h1
    go_enter Try.func6, Try.ntmps6
    go_wp2_with (go_at_call 8; refine (coded_any _).mono ?_; rintro e w1 ⟨rfl, hb⟩; replace HB := bch HB hb; clear hb)
    go_ret
    exact ⟨rfl, HB⟩
  · have hd : decide ((500 : Int) < (l.length : Int)) = false := by simp; omega
    by_cases h2 : 64 < hs.length
    · have hd2 : decide ((64 : Int) < (hs.length : Int)) = true := by simp; omega
      clear h1 h2
      go_enter Try.func6, Try.ntmps6
      go_wp2_with (go_at_call 8; refine (coded_any _).mono ?_; rintro e w1 ⟨rfl, hb⟩; replace HB := bch HB hb; clear hb)
      go_ret
      exact ⟨rfl, HB⟩
    · have hd2 : decide ((64 : Int) < (hs.length : Int)) = false := by simp; omega
      have h1' : l.length ≤ 500 := by omega
      have h2' : hs.length ≤ 64 := by omega
      clear h1 h2 hl hh
      have H32 := hid hv.len32
      have hfl := flatten_len hv.len32
      have hhl : (hashesL hs).length ≤ 2100 := by
        have hnl3 := numL_len hs.length (by omega)
        rw [hashesL, if_neg (by omega), List.length_append, hfl]; omega
      have hhp := hashesL_pos hs h2'
      have htl : (numL l.length ++ l).length ≤ 600 := by
        have hnl2 := numL_len l.length (by omega)
        rw [List.length_append]; omega
      have htp : 0 < (numL l.length ++ l).length := by have := numL_pos l.length; rw [List.length_append]; omega
      have Hc1 := hid (fun k hk => cutL_cut l (by omega) k hk)
      have Hc2 := hid (unhashesL_cut hs H32.out h2')
      clear hfl
      generalize hH : hashesL hs = HS at *
      have HH := hid hH
      clear hH
      generalize hL : numL l.length ++ l = LL at *
      have HLL := hid hL
      clear hL
      have Hv := hid hv
      clear hv
      have hm1 : (at_ : Int) % (LL.length : Int) ≤ (LL.length : Int) := by have := Int.emod_lt_of_pos (at_ : Int) (show (0 : Int) < LL.length by omega); omega
      have hm2 : 0 ≤ (at_ : Int) % (LL.length : Int) := Int.emod_nonneg _ (by omega)
      have hm3 : (at_ : Int) % (HS.length : Int) ≤ (HS.length : Int) := by have := Int.emod_lt_of_pos (at_ : Int) (show (0 : Int) < HS.length by omega); omega
      have hm4 : 0 ≤ (at_ : Int) % (HS.length : Int) := Int.emod_nonneg _ (by omega)
      have hk1 := hid (Nat.mod_lt at_ htp)
      have hk2 := hid (Nat.mod_lt at_ hhp)
      have hz1 : ((LL.length : Int) == 0) = false := by simp; intro h; rw [h] at htp; simp at htp
      have hz2 : ((HS.length : Int) == 0) = false := by simp; intro h; rw [h] at hhp; simp at hhp
      go_enter Try.func6, Try.ntmps6
      go_wp2_with (first
        | (go_at_call 13; refine (text_any l _ (by omega)).mono ?_; rw [HLL.out]; rintro e w2 ⟨rfl, hb⟩; replace HB := bch HB hb; clear hb)
        | (go_at_call 15; refine (hashes_any _ hs _ (Hv.out.below HB (Nat.le_refl _)) (by omega)).mono ?_; rw [HH.out]; rintro e w3 ⟨rfl, hb⟩; replace HB := bch HB hb; clear hb)
        | (go_at_call 19; refine (cut_none _ _ (Hc1.out _ hk1.out) (by have := List.length_take_le (at_ % LL.length) LL; omega)).mono ?_; rintro e w4 ⟨rfl, hb⟩; replace HB := bch HB hb; clear hb)
        | (go_at_call 23; refine (unhashes_none _ _ (Hc2.out _ hk2.out) (by have := List.length_take_le (at_ % HS.length) HS; omega)).mono ?_; rintro e w5 ⟨rfl, hb⟩; replace HB := bch HB hb; clear hb)
        | (go_at_call 8; refine (coded_any _).mono ?_; rintro e w1 ⟨rfl, hb⟩; replace HB := bch HB hb; clear hb))
      go_ret
      exact ⟨rfl, HB⟩
end Go.Proofs.Ytnfblddoafhdlaa
