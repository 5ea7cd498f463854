/- the document's script: bytes, decimal -/
import Derived.Test.YtdefipnmjfnpeaaDoorQScrRef1

set_option maxRecDepth 100000
namespace Go.Proofs.YtdefipnmjfnpeaaDoor
open Go.RowKit Go.Spec
theorem rdigitB (a : Nat) (ha : a < 16) (w : World) : Calls Tryd.prog 39 #[.int .i64 (a : Int)] w fun e w' => e = .returned (sv [hexd a]) ∧ Below w.heap.size w w' := by
  refine (rdigit_any a ha w).mono ?_
  rintro e w' ⟨rfl, rfl⟩
  exact ⟨rfl, Below.refl _ _⟩
set_option maxHeartbeats 4000000 in
theorem rbytes_any (l : List UInt8) (w : World) (hl : l.length ≤ 1000000000) :
    Calls Tryd.prog 28 #[sv l] w fun e w' => e = .returned (sv (hexW l)) ∧ Below w.heap.size w w' := by
  go_enter Tryd.func28, Tryd.ntmps28
  go_upto_region 3 with fail
  go_loopw [3, 4] (fun s i wr => ∃ k : Nat, k ≤ l.length ∧ i = .int .i64 (k : Int) ∧ s = sv (hexW (l.take k)) ∧ Below w.heap.size w wr) (fun _ i _ => l.length - (intOf i).toNat)
  case atStart => exact ⟨0, by omega, rfl, rfl, Below.refl _ _⟩
  case round =>
    obtain ⟨k, hk, rfl, rfl, hb⟩ := hrel
    have HB := hid hb; clear hb
    by_cases hlt : k < l.length
    · have hkI : (k : Int) < (l.length : Int) := by omega
      obtain ⟨cc, hcc⟩ : ∃ cc, l[k] = cc := ⟨_, rfl⟩
      have Htk := hid (show hexW (l.take (k + 1)) = hexW (l.take k) ++ [hexd (cc.toNat / 16)] ++ [hexd (cc.toNat % 16)] by
        rw [List.take_succ_eq_append_getElem hlt, hcc]; unfold hexW; rw [hexP_snoc]; simp)
      have hclt := cc.toNat_lt
      have hlen := hexW_len (l.take k)
      have htl : (l.take k).length ≤ l.length := by rw [List.length_take]; omega
      obtain ⟨c, hc⟩ : ∃ c, cc.toNat = c := ⟨_, rfl⟩
      rw [hc] at Htk hclt
      obtain ⟨a, ha⟩ : ∃ a, c / 16 = a := ⟨_, rfl⟩
      obtain ⟨b, hb⟩ : ∃ b, c % 16 = b := ⟨_, rfl⟩
      have haI : (c : Int).tdiv 16 = (a : Int) := by rw [Int.tdiv_eq_ediv_of_nonneg (by omega), ← ha]; omega
      have hbI : (c : Int).tmod 16 = (b : Int) := by rw [Int.tmod_eq_emod_of_nonneg (by omega), ← hb]; omega
      have haI2 : (c : Int) / 16 = (a : Int) := by rw [← ha]; omega
      have hbI2 : (c : Int) % 16 = (b : Int) := by rw [← hb]; omega
      rw [ha, hb] at Htk
      have C1 := hid (fun q : Later wr => rdigitB a (by omega) (lat q))
      have C2 := hid (fun q : Later wr => rdigitB b (by omega) (lat q))
      have hF1 : ¬ 9223372036854775807 < (hexW (l.take k)).length + 1 := by omega
      have hF2 : ¬ 9223372036854775807 < (hexW (l.take k)).length + 1 + 1 := by omega
      clear ha hb hlen htl
      generalize hexd a = e1 at *
      generalize hexd b = e2 at *
      generalize hexW (l.take k) = F at *
      go_upto_region 5 with fail
      refine wp_region_later (by kernel_rfl) (by kernel_rfl) ?_
      repeat (first
        | go_big_quiet_skip
        | go_big_quiet_step ((first | (go_at_call 39; with_reducible exact calls_later (C1.out _)) | (go_at_call 39; with_reducible exact calls_later (C2.out _)))))
      refine wpQuiet_nil ?_
      rintro _ ⟨q6, rfl⟩
      have hb6 := lat_below q6
      generalize lat q6 = w6 at *
      go_wp2
      go_roundw
      case rel => exact ⟨k + 1, by omega, by go_num, by rw [Htk.out]; simp, bth HB.out hb6⟩
      case measure => simp [intOf]; omega
    · obtain rfl : k = l.length := by omega
      have Htk := hid (show hexW (l.take l.length) = hexW l by rw [List.take_length])
      clear hlt
      go_wp2_with fail
      go_ret
      exact ⟨by rw [← Htk.out]; rfl, HB.out⟩
theorem itoa_neg1 (n : Int) (a : Nat) (h : -n = (a : Int)) (h1 : 0 < a) (h2 : a < 10) : Lib.itoa n = [45, UInt8.ofNat (48 + a)] := by
  unfold Lib.itoa
  rw [if_pos (by omega), show n.natAbs = a by omega, Lib.decDigits_one h2]
theorem itoa_pos1 (a : Nat) (h2 : a < 10) : Lib.itoa (a : Int) = [UInt8.ofNat (48 + a)] := by
  unfold Lib.itoa
  rw [if_neg (by omega), Int.toNat_natCast, Lib.decDigits_one h2]
theorem hexd_small (a : Nat) (h : a < 10) : hexd a = UInt8.ofNat (48 + a) := if_pos h
theorem itoa_step (n : Int) (h : n ≤ -10 ∨ 10 ≤ n) : Lib.itoa n = Lib.itoa (n.tdiv 10) ++ [UInt8.ofNat (48 + n.natAbs % 10)] := by
  rcases h with h | h
  · have e : n.tdiv 10 = -((n.natAbs / 10 : Nat) : Int) := by
      rw [show n = -((n.natAbs : Nat) : Int) by omega, Int.neg_tdiv, Int.tdiv_eq_ediv_of_nonneg (by omega)]
      simp
    unfold Lib.itoa
    rw [e, if_pos (by omega), if_pos (by omega), decDigits_big (by omega), show (-((n.natAbs / 10 : Nat) : Int)).natAbs = n.natAbs / 10 by omega]
    rfl
  · have e : n.tdiv 10 = ((n.natAbs / 10 : Nat) : Int) := by
      rw [show n = ((n.natAbs : Nat) : Int) by omega, Int.tdiv_eq_ediv_of_nonneg (by omega)]
      simp
    unfold Lib.itoa
    rw [e, if_neg (by omega), if_neg (by omega), Int.toNat_natCast, show n.toNat = n.natAbs by omega, decDigits_big (by omega)]
set_option maxHeartbeats 4000000 in
theorem rdec_any (m : Nat) : ∀ (n : Int), n.natAbs ≤ m → -9223372036854775808 ≤ n → n ≤ 9223372036854775807 → ∀ w : World,
    Calls Tryd.prog 26 #[.int .i64 n] w fun e w' => e = .returned (sv (Lib.itoa n)) ∧ Below w.heap.size w w' := by
  induction m using Nat.strongRecOn with
  | _ m ih =>
  intro n hm h0 h1 w
  by_cases hs : -10 < n ∧ n < 0
  · obtain ⟨s1, s2⟩ := hs
    obtain ⟨a, ha⟩ := Int.eq_ofNat_of_zero_le (show 0 ≤ -n by omega)
    have e1 := itoa_neg1 n a ha (by omega) (by omega)
    have d1 : decide (-10 < n) = true := decide_eq_true s1
    have d2 : decide (n < 0) = true := decide_eq_true s2
    have C1 := hid (rdigitB a (by omega) w)
    rw [hexd_small a (by omega)] at C1
    have E1 := hid e1
    generalize UInt8.ofNat (48 + a) = D at *
    have hwa : wrap64 (a : Int) = (a : Int) := by unfold wrap64; omega
    have haI : (a : Int) < 10 := by omega
    clear e1 hm s1 s2 ih
    go_enter Tryd.func26, Tryd.ntmps26
    go_wp2_with (go_at_call 39; refine C1.out.mono ?_; rintro e w1 ⟨rfl, hb1⟩)
    go_ret
    exact ⟨by rw [E1.out]; rfl, hb1⟩
  · by_cases hp : 0 ≤ n ∧ n < 10
    · obtain ⟨s1, s2⟩ := hp
      obtain ⟨a, rfl⟩ := Int.eq_ofNat_of_zero_le s1
      have e1 := itoa_pos1 a (by omega)
      have d1 : decide (-10 < (a : Int)) = true := decide_eq_true (by omega)
      have d2 : decide ((a : Int) < 0) = false := decide_eq_false (by omega)
      have d3 : decide (0 ≤ (a : Int)) = true := decide_eq_true (by omega)
      have d4 : decide ((a : Int) < 10) = true := decide_eq_true (by omega)
      have C1 := hid (rdigitB a (by omega) w)
      rw [hexd_small a (by omega)] at C1
      have E1 := hid e1
      generalize UInt8.ofNat (48 + a) = D at *
      clear e1 hm hs ih
      go_enter Tryd.func26, Tryd.ntmps26
      go_wp2_with (go_at_call 39; refine C1.out.mono ?_; rintro e w1 ⟨rfl, hb1⟩)
      go_ret
      exact ⟨by rw [E1.out]; rfl, hb1⟩
    · have hb : n ≤ -10 ∨ 10 ≤ n := by omega
      have e1 := itoa_step n hb
      obtain ⟨t, ht⟩ : ∃ t, n.tdiv 10 = t := ⟨_, rfl⟩
      obtain ⟨d, hd⟩ : ∃ d : Nat, n.natAbs % 10 = d := ⟨_, rfl⟩
      rw [ht, hd] at e1
      have htb : t.natAbs < m ∧ -9223372036854775808 ≤ t ∧ t ≤ 9223372036854775807 ∧ (n.tmod 10 = (d : Int) ∨ (n ≤ -10 ∧ n.tmod 10 = -(d : Int))) ∧ d < 10 := by
        rcases hb with h | h
        · obtain ⟨u, hu⟩ : ∃ u : Nat, n = -(u : Int) := ⟨n.natAbs, by omega⟩
          subst hu
          rw [Int.neg_tdiv, Int.tdiv_eq_ediv_of_nonneg (by omega)] at ht
          refine ⟨by omega, by omega, by omega, .inr ⟨h, ?_⟩, by omega⟩
          rw [Int.neg_tmod, Int.tmod_eq_emod_of_nonneg (by omega), ← hd]
          omega
        · obtain ⟨u, hu⟩ : ∃ u : Nat, n = (u : Int) := ⟨n.natAbs, by omega⟩
          subst hu
          rw [Int.tdiv_eq_ediv_of_nonneg (by omega)] at ht
          refine ⟨by omega, by omega, by omega, .inl ?_, by omega⟩
          rw [Int.tmod_eq_emod_of_nonneg (by omega), ← hd]
          omega
      obtain ⟨t1, t2, t3, hr, hd10⟩ := htb
      have D0 := hid (fun w9 => ih t.natAbs t1 t (Nat.le_refl _) t2 t3 w9)
      have D1 := hid (fun w9 => rdigitB d (by omega) w9)
      rw [hexd_small d hd10] at D1
      have hlt := Lib.itoa_length_le t t2 t3
      have hf : ¬ 9223372036854775807 < (Lib.itoa t).length + 1 := by omega
      have E1 := hid e1
      have hwt : wrap64 t = t := by unfold wrap64; omega
      clear e1 hlt hd ih hm t1 t2 t3
      generalize Lib.itoa t = T at *
      generalize UInt8.ofNat (48 + d) = D at *
      have WALK := True.intro
      obtain ⟨r, hrr⟩ : ∃ r, n.tmod 10 = r := ⟨_, rfl⟩
      rw [hrr] at hr
      have hr3 : (r = (d : Int)) ∨ (r < 0 ∧ -r = (d : Int) ∧ n ≤ -10) := by
        rcases hr with h | ⟨h, h'⟩
        · exact .inl h
        · by_cases h5 : d = 0
          · exact .inl (by omega)
          · exact .inr ⟨by omega, by omega, h⟩
      clear hr
      rcases hr3 with rfl | ⟨hr1, hr2, _⟩
      · have d0 : decide ((d : Int) < 0) = false := decide_eq_false (by omega)
        rcases hb with hb | hb
        · have d1 : decide (-10 < n) = false := decide_eq_false (by omega)
          have d2 : decide (0 ≤ n) = false := decide_eq_false (by omega)
          clear hb hs hp
          go_enter Tryd.func26, Tryd.ntmps26
          go_wp2_with (first
            | (go_at_call 26; refine (D0.out _).mono ?_; rintro e w1 ⟨rfl, hb1⟩)
            | (go_at_call 39; refine (D1.out _).mono ?_; rintro e w2 ⟨rfl, hb2⟩))
          go_ret
          exact ⟨by rw [E1.out]; rfl, bth hb1 hb2⟩
        · have d1 : decide (-10 < n) = true := decide_eq_true (by omega)
          have d2 : decide (n < 0) = false := decide_eq_false (by omega)
          have d3 : decide (0 ≤ n) = true := decide_eq_true (by omega)
          have d4 : decide (n < 10) = false := decide_eq_false (by omega)
          clear hb hs hp
          go_enter Tryd.func26, Tryd.ntmps26
          go_wp2_with (first
            | (go_at_call 26; refine (D0.out _).mono ?_; rintro e w1 ⟨rfl, hb1⟩)
            | (go_at_call 39; refine (D1.out _).mono ?_; rintro e w2 ⟨rfl, hb2⟩))
          go_ret
          exact ⟨by rw [E1.out]; rfl, bth hb1 hb2⟩
      · have d0 : decide (r < 0) = true := decide_eq_true hr1
        have d1 : decide (-10 < n) = false := decide_eq_false (by omega)
        have d2 : decide (0 ≤ n) = false := decide_eq_false (by omega)
        have hwd : wrap64 (d : Int) = (d : Int) := by unfold wrap64; omega
        clear hb hs hp hr1
        go_enter Tryd.func26, Tryd.ntmps26
        go_wp2_with (first
          | (go_at_call 26; refine (D0.out _).mono ?_; rintro e w1 ⟨rfl, hb1⟩)
          | (go_at_call 39; refine (D1.out _).mono ?_; rintro e w2 ⟨rfl, hb2⟩))
        go_ret
        exact ⟨by rw [E1.out]; rfl, bth hb1 hb2⟩
end Go.Proofs.YtdefipnmjfnpeaaDoor
