/- speculumlaw04.grown -/
import Derived.Test.YtdllaenbkfajdaaDoorTreeRoot
import Derived.Test.YtdllaenbkfajdaaDoorTreeSome
import Derived.Test.YtdllaenbkfajdaaDoorZero
set_option maxRecDepth 100000
namespace Go.Proofs.YtdllaenbkfajdaaDoor
open Go.RowKit Go.Spec
theorem grown_root : rootL (someL 7 3) = nodeL (nodeL (someH 7 0) (someH 7 1)) (someH 7 2) := by decide +kernel
theorem grown_not : (rootL (someL 7 3) == zero32) = false := by decide +kernel
theorem split1 : splitN 2 = 1 ∧ splitN 3 = 2 ∧ splitN 8 = 4 ∧ splitN 9 = 8 := by decide +kernel
theorem someL_32 (seed : UInt8) (n : Nat) : ∀ x ∈ someL seed n, x.length = 32 := by
  intro x hx
  unfold someL at hx
  obtain ⟨i, _, rfl⟩ := List.mem_map.mp hx
  exact someH_len seed i
theorem some_sl (seed : UInt8) (n : Nat) (w : World) (hn : n ≤ 1000000) :
    Calls Tryd.prog 15 #[.int .i64 (n : Int), .int .u8 (seed.toNat : Int)] w fun e w' => ∃ v, e = .returned v ∧ SlAt w' 32 v (hcs (someL seed n)) ∧ Below w.heap.size w w' :=
  (some_any seed n w hn).mono fun _ _ ⟨v, he, hown, hb⟩ => ⟨v, he, SlAt.of_owns (size := 32) (hs := someL seed n) (by rw [someL_len]; exact hown) (someL_32 seed n), hb⟩
set_option maxHeartbeats 2000000 in
theorem grown_any (w : World) (hG : ShaG w) :
    Calls Tryd.prog 12 #[] w fun e w' => e = .returned (.bool true) ∧ Below w.heap.size w w' := by
  have HG := hid hG; clear hG
  have hs3 := Tryd.sizeHash
  have hs5 := Tryd.sizeU8
  have hge := Tryd.guardHash3
  go_enter Tryd.func12, Tryd.ntmps12
  go_wp2_with fail
  refine (some_sl 7 3 _ (by decide)).mono ?_
  rintro e w1 ⟨v, rfl, hS, hb1⟩
  have hS0 := hS
  obtain ⟨a, cap, rfl, hcap⟩ := hS.formH
  rw [someL_len] at *
  obtain ⟨b, o, rfl, hbl, hcl, hcell0⟩ := hS.at (i := 0) (cs := (someH 7 0).map bcell) rfl
  obtain ⟨b', o', hq, _, _, hcell1⟩ := hS.at (i := 1) (cs := (someH 7 1).map bcell) rfl
  injection hq with hq; injection hq with q1 q2; subst q1; subst q2
  obtain ⟨b', o', hq, _, _, hcell2⟩ := hS.at (i := 2) (cs := (someH 7 2).map bcell) rfl
  injection hq with hq; injection hq with q1 q2; subst q1; subst q2
  have Hc0 := hid hcell0; have Hc1 := hid hcell1; have Hc2 := hid hcell2
  have sp := split1
  have SB : ∀ (n m : Nat), 2 ≤ n → n ≤ 100 → splitN n = m → ∀ x : Later w1, Calls Tryd.prog 17 #[.int .i64 (n : Int)] (lat x) fun e w' => e = .returned (.int .i64 (m : Int)) ∧ Below (lat x).heap.size (lat x) w' := fun n m h h2 hm x =>
    (split_big n (lat x) h (by omega)).mono fun _ _ ⟨p, q⟩ => ⟨by rw [p, hm], by subst q; exact Below.refl _ _⟩
  have S1 := hid (show ∀ x : Later w1, Calls Tryd.prog 17 #[.int .i64 1] (lat x) fun e w' => e = .returned (.int .i64 0) ∧ Below (lat x).heap.size (lat x) w' from fun x =>
    (split_small 1 (lat x) (by decide) (by decide)).mono fun _ _ ⟨p, q⟩ => ⟨p, by subst q; exact Below.refl _ _⟩)
  have S2 := hid (show ∀ x : Later w1, Calls Tryd.prog 17 #[.int .i64 2] (lat x) fun e w' => e = .returned (.int .i64 1) ∧ Below (lat x).heap.size (lat x) w' from SB 2 1 (by decide) (by decide) sp.1)
  have S3 := hid (show ∀ x : Later w1, Calls Tryd.prog 17 #[.int .i64 3] (lat x) fun e w' => e = .returned (.int .i64 2) ∧ Below (lat x).heap.size (lat x) w' from SB 3 2 (by decide) (by decide) sp.2.1)
  have S8 := hid (show ∀ x : Later w1, Calls Tryd.prog 17 #[.int .i64 8] (lat x) fun e w' => e = .returned (.int .i64 4) ∧ Below (lat x).heap.size (lat x) w' from SB 8 4 (by decide) (by decide) sp.2.2.1)
  have S9 := hid (show ∀ x : Later w1, Calls Tryd.prog 17 #[.int .i64 9] (lat x) fun e w' => e = .returned (.int .i64 8) ∧ Below (lat x).heap.size (lat x) w' from SB 9 8 (by decide) (by decide) sp.2.2.2)
  clear SB sp
  have hl0 := someH_len 7 0
  have hl1 := someH_len 7 1
  have hl2 := someH_len 7 2
  have hln := nodeL_len (someH 7 0) (someH 7 1)
  have hrl := rootL_len _ (someL 7 3) (Nat.le_refl _) (someL_32 7 3)
  have Hrt := hid (fun (x : Later w1) => root_any (someL 7 3) (.slice (some ⟨b, o, none⟩) 3 cap) (lat x) (by rw [someL_len]; decide) (HG.out.later (bth hb1 (lat_below x))) (hS0.below (lat_below x) (Nat.le_refl _)))
  have Hnd := hid (fun (x : Later w1) => node_any (someH 7 0) (someH 7 1) (lat x) hl0 hl1 (HG.out.later (bth hb1 (lat_below x))))
  have Hnd2 := hid (fun (x : Later w1) => node_any (nodeL (someH 7 0) (someH 7 1)) (someH 7 2) (lat x) hln hl2 (HG.out.later (bth hb1 (lat_below x))))
  have hq0 := grown_not
  rw [← grown_root] at Hnd2
  have hz32 : zero32.length = 32 := rfl
  have hzb := Tryd.zeroHash
  generalize rootL (someL 7 3) = R at *
  generalize nodeL (someH 7 0) (someH 7 1) = N at *
  generalize someH 7 0 = A at *
  generalize someH 7 1 = B at *
  generalize someH 7 2 = D at *
  have HA := hid (show (Tryd.prog.info? 25).map (·.size) = some A.length by rw [hl0]; exact Tryd.sizeHash)
  have HBs := hid (show (Tryd.prog.info? 25).map (·.size) = some B.length by rw [hl1]; exact Tryd.sizeHash)
  have HD := hid (show (Tryd.prog.info? 25).map (·.size) = some D.length by rw [hl2]; exact Tryd.sizeHash)
  rw [show o + 0 * 32 = o by omega] at hcell0
  rw [show o + 1 * 32 = o + 32 by omega] at hcell1
  rw [show o + 2 * 32 = o + 64 by omega] at hcell2
  have Hc0 := hid hcell0; have Hc1 := hid hcell1; have Hc2 := hid hcell2
  clear hS hS0 hcell0 hcell1 hcell2 hcl
  go_wp2_with fail
  refine wp_region_later (by kernel_rfl) (by kernel_rfl) ?_
  repeat (first
    | (refine wpQuiet_load_hcG rfl 25 _ rfl ⟨b, o, none⟩ rfl A _ (by rintro _ ⟨q, rfl⟩; exact lat_cells q hbl Hc0.out) Tryd.underlying25 rfl HA.out ?_; simp only [Act.put, List.setIfInBounds_toArray, List.set_cons_succ, List.set_cons_zero])
    | (refine wpQuiet_load_hcG rfl 25 _ rfl ⟨b, o + 32, none⟩ rfl B _ (by rintro _ ⟨q, rfl⟩; exact lat_cells q hbl Hc1.out) Tryd.underlying25 rfl HBs.out ?_; simp only [Act.put, List.setIfInBounds_toArray, List.set_cons_succ, List.set_cons_zero])
    | (refine wpQuiet_load_hcG rfl 25 _ rfl ⟨b, o + 64, none⟩ rfl D _ (by rintro _ ⟨q, rfl⟩; exact lat_cells q hbl Hc2.out) Tryd.underlying25 rfl HD.out ?_; simp only [Act.put, List.setIfInBounds_toArray, List.set_cons_succ, List.set_cons_zero])
    | (refine wpQuiet_buildV rfl 25 rfl (hv zero32) Tryd.zeroHash ?_; simp only [Act.put, List.setIfInBounds_toArray, List.set_cons_succ, List.set_cons_zero])
    | go_big_quiet_step ((first | (go_at_call 17; with_reducible exact calls_later (S1.out _)) | (go_at_call 17; with_reducible exact calls_later (S2.out _)) | (go_at_call 17; with_reducible exact calls_later (S3.out _)) | (go_at_call 17; with_reducible exact calls_later (S8.out _)) | (go_at_call 17; with_reducible exact calls_later (S9.out _)) | (go_at_call 13; with_reducible exact calls_later (Hrt.out _)) | (go_at_call 16; with_reducible exact calls_later (Hnd.out _)) | (go_at_call 16; with_reducible exact calls_later (Hnd2.out _)))))
  refine wpQuiet_nil ?_
  rintro _ ⟨q2, rfl⟩
  have hb2 := lat_below q2
  generalize lat q2 = w2 at *
  go_wp2
  go_ret
  exact ⟨rfl, bth hb1 hb2⟩
end Go.Proofs.YtdllaenbkfajdaaDoor
