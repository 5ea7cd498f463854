/- the law TreesHalves: the walk -/
import Derived.Test.YtdllaenbkfajdaaDoorTreeGrown
import Derived.Test.YtdllaenbkfajdaaDoorTreeRRoot
set_option maxRecDepth 100000
namespace Go.Proofs.YtdllaenbkfajdaaDoor
open Go.RowKit Go.Spec
theorem wrap_small (x : Int) (h1 : -9223372036854775808 ≤ x) (h2 : x ≤ 9223372036854775807) : wrap64 x = x := by unfold wrap64; omega
theorem split_half (p m : Nat) (hp : p < 6) (h1 : 1 ≤ m) (h2 : m ≤ 2 ^ p) : splitN (2 ^ p + m) = 2 ^ p := by
  have h0 : 0 < 2 ^ p := Nat.pow_pos (by omega)
  obtain ⟨J, e, e1, e2⟩ := split_pow (2 ^ p + m) (by omega)
  rw [e]
  have : J = p := by
    rcases Nat.lt_trichotomy J p with h | h | h
    · have := pow_lt J p h; omega
    · exact h
    · have := pow_lt p J h; omega
  rw [this]
theorem some_take (seed : UInt8) (n k : Nat) (h : k ≤ n) : (someL seed n).take k = someL seed k := by
  unfold someL
  rw [← List.map_take, List.take_range, Nat.min_eq_left h]
theorem half_nums (pw ot : Nat) : ∃ p k m m1 n : Nat, (pw : Int) % 6 = (p : Int) ∧ wrap64 ((2 : Int) ^ p) = (k : Int) ∧ (ot : Int) % (k : Int) = (m : Int) ∧ wrap64 (1 + (m : Int)) = (m1 : Int) ∧ wrap64 ((k : Int) + (m1 : Int)) = (n : Int) ∧ 0 < k ∧ k ≤ 32 ∧ 1 ≤ m1 ∧ m1 ≤ k ∧ n = k + m1 ∧ splitN n = k := by
  have hp6 : pw % 6 < 6 := Nat.mod_lt _ (by omega)
  have hk32 : 2 ^ (pw % 6) ≤ 32 := by
    have := Nat.pow_le_pow_right (n := 2) (by omega) (show pw % 6 ≤ 5 by omega)
    exact this
  have hk0 : 0 < 2 ^ (pw % 6) := Nat.pow_pos (by omega)
  have hmk := Nat.mod_lt ot hk0
  refine ⟨pw % 6, 2 ^ (pw % 6), ot % 2 ^ (pw % 6), ot % 2 ^ (pw % 6) + 1, 2 ^ (pw % 6) + (ot % 2 ^ (pw % 6) + 1), by omega, ?_, rfl, ?_, ?_, hk0, hk32, by omega, hmk, rfl, split_half _ _ hp6 (by omega) hmk⟩
  · rw [show (2 : Int) ^ (pw % 6) = ((2 ^ (pw % 6) : Nat) : Int) by simp]
    generalize 2 ^ (pw % 6) = k at *
    exact wrap_small _ (by omega) (by omega)
  · generalize ot % 2 ^ (pw % 6) = m at *
    generalize 2 ^ (pw % 6) = k at *
    rw [wrap_small _ (by omega) (by omega)]; omega
  · generalize ot % 2 ^ (pw % 6) = m at *
    generalize 2 ^ (pw % 6) = k at *
    rw [wrap_small _ (by omega) (by omega)]; omega
set_option maxHeartbeats 4000000 in
theorem treesHalves_law (pw ot : Nat) (seed : UInt8) (w : World) (hp : pw < 256) (ho : ot < 256) (hG : ShaG w) :
    Calls Tryd.prog 4 #[.int .u8 (pw : Int), .int .u8 (ot : Int), .int .u8 (seed.toNat : Int)] w fun e w' => e = .returned (.bool true) ∧ Below w.heap.size w w' := by
  have HG := hid hG; clear hG
  obtain ⟨p, k, m, m1, n, e0, ek, e1, e2, e3, hk0, hk32, hm0, hmk, hn, hsp⟩ := half_nums pw ot
  have Hsp := hid hsp
  have hnk : n = k + m1 := hn
  have hnb : n ≤ 1000 := by clear e0 ek e1 e2 e3; omega
  have hkn : k < n := by clear e0 ek e1 e2 e3; omega
  have hn2 : 2 ≤ n := by clear e0 ek e1 e2 e3; omega
  have hlen := someL_len seed n
  have h32 := someL_32 seed n
  have Hroot := hid (rootL_many (someL seed n) (by rw [hlen]; exact hn2))
  rw [hlen, Hsp.out] at Hroot
  have ek0 : ((k : Int) == 0) = false := beq_eq_false_iff_ne.mpr (by clear e0 ek e1 e2 e3; omega)
  have ek2 : ¬ k = 0 := by clear e0 ek e1 e2 e3; omega
  have HLEN := hid hlen; have H32 := hid h32
  clear hn hnk hsp hlen h32 hm0 hmk
  go_enter Tryd.func4, Tryd.ntmps4
  go_wp2_with fail
  refine (some_sl seed n _ (by omega)).mono ?_
  rintro e w1 ⟨v, rfl, hS, hb1⟩
  have hlen := HLEN.out; have h32 := H32.out
  obtain ⟨a, cap, rfl, hcap⟩ := hS.formH
  rw [hlen] at hcap hS ⊢
  obtain ⟨b, o, rfl, hblt⟩ := hS.addr (by rw [hcs_length, hlen]; omega)
  have hT := hS.takeS k (by rw [hcs_length, hlen]; omega)
  have hD := hS.dropS k (by rw [hcs_length, hlen]; omega)
  rw [hcs_take] at hT
  rw [hcs_drop] at hD
  have lt1 := rootL_len _ ((someL seed n).take k) (Nat.le_refl _) (fun x hx => h32 x (List.mem_of_mem_take hx))
  have lt2 := rootL_len _ ((someL seed n).drop k) (Nat.le_refl _) (fun x hx => h32 x (List.mem_of_mem_drop hx))
  have hL1 : ((someL seed n).take k).length ≤ 1000000 := by rw [List.length_take, hlen]; omega
  have hL2 : ((someL seed n).drop k).length ≤ 1000000 := by rw [List.length_drop, hlen]; omega
  have hL0 : (someL seed n).length ≤ 1000000 := by rw [hlen]; omega
  have HG1 := hid (HG.out.later hb1)
  have R0 := hid (fun x : Later w1 => root_any _ _ (lat x) hL0 (HG1.out.later (lat_below x)) (hS.below (lat_below x) (Nat.le_refl _)))
  have R1 := hid (fun x : Later w1 => root_any _ _ (lat x) hL1 (HG1.out.later (lat_below x)) (hT.below (lat_below x) (Nat.le_refl _)))
  have R2 := hid (fun x : Later w1 => root_any _ _ (lat x) hL2 (HG1.out.later (lat_below x)) (hD.below (lat_below x) (Nat.le_refl _)))
  have N0 := hid (fun x : Later w1 => node_any (rootL ((someL seed n).take k)) (rootL ((someL seed n).drop k)) (lat x) lt1 lt2 (HG1.out.later (lat_below x)))
  rw [← Hroot.out] at N0
  have Gr := hid (fun x : Later w1 => grown_any (lat x) (HG1.out.later (lat_below x)))
  have S0 := hid (fun x : Later w1 => (split_big n (lat x) (by omega) (by omega)).mono (R' := fun e w' => e = .returned (.int .i64 (k : Int)) ∧ Below (lat x).heap.size (lat x) w') fun _ _ ⟨p, q⟩ => ⟨by rw [p, Hsp.out], by subst q; exact Below.refl _ _⟩)
  have hxr := rootL_len _ (someL seed n) (Nat.le_refl _) h32
  have hs5 := Tryd.sizeU8
  have hge := Tryd.guardHash3
  have kI : (k : Int) ≤ (n : Int) := by omega
  have kC : (k : Int) ≤ (cap : Int) := by omega
  have nC : (n : Int) ≤ (cap : Int) := by omega
  have hkc : k ≠ cap := by omega
  have hq : (rootL (someL seed n) == rootL (someL seed n)) = true := by simp
  clear Hroot hS hT hD hL0 hL1 hL2 lt1 lt2 hlen h32
  generalize rootL (someL seed n) = X0 at *
  generalize rootL ((someL seed n).take k) = X1 at *
  generalize rootL ((someL seed n).drop k) = X2 at *
  go_wp2_with fail
  refine wp_region_later (by kernel_rfl) (by kernel_rfl) ?_
  repeat go_big_quiet_step ((first | (go_at_call 13; with_reducible exact calls_later (R0.out _)) | (go_at_call 13; with_reducible exact calls_later (R1.out _)) | (go_at_call 13; with_reducible exact calls_later (R2.out _)) | (go_at_call 16; with_reducible exact calls_later (N0.out _)) | (go_at_call 17; with_reducible exact calls_later (S0.out _)) | (go_at_call 12; with_reducible exact calls_later (Gr.out _))))
  refine wpQuiet_nil ?_
  rintro _ ⟨q2, rfl⟩
  have hb2 := lat_below q2
  generalize lat q2 = w2 at *
  go_wp2
  go_ret
  exact ⟨rfl, bth hb1 hb2⟩
end Go.Proofs.YtdllaenbkfajdaaDoor
