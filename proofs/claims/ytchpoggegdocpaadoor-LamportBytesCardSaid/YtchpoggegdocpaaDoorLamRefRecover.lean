/- speculumref08.Recover: a signature -/
import Derived.Test.YtchpoggegdocpaaDoorLamRecover
import Derived.Test.YtchpoggegdocpaaDoorLamRefSign
set_option maxRecDepth 100000
namespace Go.Proofs.YtchpoggegdocpaaDoor
open Go.RowKit Go.Spec
set_option maxHeartbeats 4000000 in
theorem rrecover_yes (sig d : List UInt8) (w : World) (hs : sig.length = 16384) (hdl : d.length = 32) :
    Calls Tryd.prog 23 #[sv sig, hv d] w fun e w' => e = .returned (.tuple #[hv (recK sig d), .int .i64 0]) ∧ Below w.heap.size w w' := by
  obtain ⟨i0, hi, hz0, hz1, hz2⟩ := info_parts Tryd.infoHashP
  have HA : Below w.heap.size w ((w.alloc (.cells (hc d) 42)).alloc (.cells (hc zero32) 42)) := ((Below.refl _ w).alloc (Nat.le_refl _) _).alloc (by simp) _
  have hZ : Blk ((w.alloc (.cells (hc d) 42)).alloc (.cells (hc zero32) 42)) (w.heap.size + 1) (hc zero32) 42 := Blk.new' _ _ _ (by simp)
  have hD : Blk ((w.alloc (.cells (hc d) 42)).alloc (.cells (hc zero32) 42)) w.heap.size (hc d) 42 := (Blk.new _ _ _).alloc _
  have hd0 : ((sig.length : Int) != 16384) = false := by simp; omega
  have HSL := hid hs
  have hsl1 : 16384 ≤ sig.length := by omega
  have hsl2 : sig.length ≤ 16384 := by omega
  have HDL := hid hdl
  clear hs hdl
  have hmk := run_make_hashes (P := Tryd.prog) 49 42 i0 Tryd.underlying49 hi hz0 hz1 hz2 512 (by omega) 512 rfl
  generalize hw2 : ((w.alloc (.cells (hc d) 42)).alloc (.cells (hc zero32) 42)) = w2 at *
  have hsz2 : w2.heap.size = w.heap.size + 2 := by rw [← hw2]; simp
  have Hw2 := hid hw2
  have hB0 : HsBlk (w2.alloc (.cells (hc (List.replicate 512 zero32).flatten) 42)) w2.heap.size (List.replicate 512 zero32) 42 := ⟨Blk.new _ _ _, fun x hx => by rw [List.eq_of_mem_replicate hx]; rfl⟩
  generalize hfl : hc (List.replicate 512 zero32).flatten = fl at *
  have Hfl := hid hfl; clear hfl
  clear hw2
  have HZ := hid hZ; have HDd := hid hD; have HAa := hid HA; have HB0 := hid hB0; have Hsz2 := hid hsz2
  clear hZ hD HA hB0 hsz2
  go_enter Tryd.func23, Tryd.ntmps23
  go_upto_region 3 with fail
  show Code.wp _ _ _ _ ((w.alloc (.cells (hc d) 42)).alloc (.cells (hc zero32) 42))
  rw [Hw2.out]
  go_upto_region 4 with fail
  show Code.wp _ _ _ _ (w2.alloc (.cells fl 42))
  have HB3 := hid (HAa.out.alloc HAa.out.size (.cells fl 42))
  have HZ3 := hid (HZ.out.alloc (.cells fl 42))
  have HD3 := hid (HDd.out.alloc (.cells fl 42))
  have hzl := HZ.out.lt
  have hdl := HDd.out.lt
  have hwl := HAa.out.size
  generalize hw3 : w2.alloc (.cells fl 42) = w3 at *
  generalize hgp : w2.heap.size = gp at *
  clear hw3 hgp HAa HZ HDd Hw2 Hsz2
  go_wp2_with fail
  go_loopw [7] (fun i wr => ∃ k : Nat, k ≤ 256 ∧ i = .int .i64 (k : Int) ∧ HsBlk wr gp (recL sig d k) 42 ∧ Below gp w3 wr) (fun i _ => 256 - (intOf i).toNat)
  case atStart => exact ⟨0, by omega, rfl, HB0.out, Below.refl _ _⟩
  case round =>
    obtain ⟨k, hk, rfl, hB, hb⟩ := hrel
    clear HB0
    have Hbw := hid (HB3.out.trans (hb.mono hwl))
    have HBk := hid hB
    clear hB
    by_cases hlt : k < 256
    · have hdk : decide ((k : Int) < 256) = true := by simp; omega
      have hbl := bitL_lt d k
      have HBit := hid (fun w0 => rbit_any d k w0 HDL.out hlt)
      have Hnx := hid (show recL sig d (k + 1) = recS sig d k (recL sig d k) from rfl)
      unfold recS at Hnx
      have HLen := hid (recL_len sig d k)
      have HX := hid (recX_len sig k HSL.out hlt)
      have HY := hid (recY_len sig k HSL.out hlt)
      have Hsh := hid (shownL_len (recX sig k))
      generalize bitL d k = bt at *
      obtain ⟨p, hp⟩ : ∃ p, 2 * k + bt = p := ⟨_, rfl⟩
      obtain ⟨q, hq⟩ : ∃ q, 2 * k + 1 - bt = q := ⟨_, rfl⟩
      have ep : 2 * (k : Int) + (bt : Int) = (p : Int) := by omega
      have eq : 2 * (k : Int) + 1 - (bt : Int) = (q : Int) := by omega
      rw [hp, hq] at Hnx
      have hp5 : p < 512 := by omega
      have hq5 : q < 512 := by omega
      clear hp hq
      obtain ⟨m0, hm0⟩ : ∃ m0, k * 32 = m0 := ⟨_, rfl⟩
      obtain ⟨m1, hm1⟩ : ∃ m1, k * 32 + 32 = m1 := ⟨_, rfl⟩
      obtain ⟨m2, hm2⟩ : ∃ m2, 8192 + k * 32 = m2 := ⟨_, rfl⟩
      have e0 : 32 * (k : Int) = (m0 : Int) := by omega
      have e1 : (m0 : Int) + 32 = (m1 : Int) := by omega
      have e2 : 8192 + (m0 : Int) = (m2 : Int) := by omega
      have hm01 : m0 ≤ m1 := by omega
      have hm1s : m1 ≤ sig.length := by omega
      have hm2s : m2 + 32 ≤ sig.length := by omega
      have HXe := hid (show (sig.take m1).drop m0 = recX sig k by unfold recX; rw [hm1, hm0])
      have HYe := hid (show (sig.drop m2).take 32 = recY sig k by unfold recY; rw [hm2])
      have W := hid (show ∀ w0, Calls Tryd.prog 32 #[sv (3 :: (sig.take m1).drop m0)] w0 fun e w' => e = .returned (hv (shownL (recX sig k))) ∧ Below w0.heap.size w0 w' by
        rw [HXe.out]; exact fun w0 => rsum_any (3 :: recX sig k) w0 (by rw [List.length_cons, HX.out]; omega))
      have Un := hid (fun w0 => runhash_yes (sig.drop m2) w0 (by rw [List.length_drop]; omega) (by rw [List.length_drop]; omega))
      rw [HYe.out] at Un
      clear hm0 hm1 hm2 HYe
      generalize recX sig k = X at *
      generalize recY sig k = Y at *
      generalize shownL X = S at *
      generalize recL sig d k = L at *
      have Hsy := hid (show (Tryd.prog.info? 42).map (·.size) = some Y.length by rw [HY.out]; exact Tryd.sizeHash)
      have hcv := ((HD3.out.below hb hdl)).convHead (P := Tryd.prog) (k := 32) (n := 32) (by rw [HDL.out]; omega) 35 9 5 Tryd.underlying35 Tryd.underlying5 Tryd.underlying9
      rw [List.take_of_length_le (by rw [HDL.out]; omega)] at hcv
      go_upto_region 9 with (first
        | (go_at_call 40; refine (HBit.out _).mono ?_; rintro e w7 ⟨rfl, rfl⟩; clear hcv)
        | (go_at_call 32; refine (W.out _).mono ?_; rintro e w4 ⟨rfl, hb4⟩)
        | ((with_reducible show wpList _ _ _ ({ dst := _, op := Op.store _ _ _, type := _, pos := _, after := _, guard := _ } :: _) _ _); refine wpList_store_hash rfl 42 _ _ rfl gp p rfl S rfl L 42 (HBk.out.later hb4) Hsh.out (by rw [HLen.out]; exact hp5) Tryd.sizeHash ?_; intro w5 hB5 hb5))
      have Hb5 := hid ((hb.trans (hb4.mono (Nat.le_of_lt HBk.out.1.lt))).trans (hb5 gp (Nat.le_refl _)))
      have HB5 := hid hB5
      clear hb hb4 hb5 hB5 HBk
      go_wp2_with (first
        | (go_at_call 47; refine (Un.out _).mono ?_; rintro e w6 ⟨rfl, hb6⟩; have Hb6 := hid (Hb5.out.trans (hb6.mono (Nat.le_of_lt HB5.out.1.lt))); have HB6 := hid (HB5.out.later hb6); clear hb6)
        | ((with_reducible show wpList _ _ _ ({ dst := _, op := Op.store _ _ _, type := _, pos := _, after := _, guard := _ } :: _) _ (World.alloc w6 _)); refine wpList_store_new rfl 42 _ _ rfl rfl Y rfl (hc zero32) 42 (by rw [HY.out]; rfl) Hsy.out ?_)
        | (refine wpList_load_new rfl 42 _ rfl rfl Y 42 _ Tryd.underlying42 rfl Hsy.out ?_)
        | ((with_reducible show wpList _ _ _ ({ dst := _, op := Op.store _ _ _, type := _, pos := _, after := _, guard := _ } :: _) _ _); refine wpList_store_hash rfl 42 _ _ rfl gp q rfl Y rfl (L.set p S) 42 (HB6.out.later ((Below.refl _ _).alloc (Nat.le_refl _) _)) HY.out (by rw [List.length_set, HLen.out]; exact hq5) Tryd.sizeHash ?_; intro w8 hB8 hb8))
      have hgl := HB6.out.1.lt
      go_roundw
      case rel => exact ⟨k + 1, by omega, by go_num, by rw [Hnx.out]; exact hB8, ((Hb6.out.alloc (Nat.le_of_lt hgl) _)).trans (hb8 gp (Nat.le_refl _))⟩
      case measure => simp [intOf]; omega
    · obtain rfl : k = 256 := by omega
      have hdk : decide ((256 : Int) < 256) = false := by decide
      have HLen := hid (recL_len sig d 256)
      have Hres := hid (show recK sig d = sumL (4 :: (recL sig d 256).flatten) from rfl)
      have hR := recK_len sig d
      have Hs := hid (show (Tryd.prog.info? 42).map (·.size) = some (hc (recK sig d)).size by rw [hc_size, hR]; exact Tryd.sizeHash)
      have Hz := hid (show (hc (recK sig d)).size = (hc zero32).size by rw [hc_size, hR]; rfl)
      clear hR
      have hsl := HsBlk.sl HBk.out (by rw [HLen.out]; decide)
      rw [HLen.out] at hsl
      have W := hid (rlleaf_yes _ _ wr hsl HLen.out)
      rw [← Hres.out] at W
      generalize hRd : recK sig d = R at *
      have HRd := hid hRd; clear hRd
      have hZ4 := HZ3.out.below hb hzl
      go_wp2_with (first
        | (go_at_call 28; refine W.out.mono ?_; rintro e w5 ⟨rfl, hb5⟩)
        | ((with_reducible show wpList _ _ _ ({ dst := _, op := Op.store _ _ _, type := _, pos := _, after := _, guard := _ } :: _) _ _); refine wpList_store_blk rfl 42 _ _ rfl (w.heap.size + 1) rfl (hc R) rfl _ _ (hZ4.later hb5) Hz.out Hs.out (hc_row_one _) ?_))
      refine bodyPost_ret (results_cell2 rfl _ (w.heap.size + 1) 42 _ (0, 0) _ rfl ((hZ4.later hb5).setRow) Tryd.underlying42 rfl Hs.out) rfl ⟨by rw [HRd.out]; rfl, ?_⟩
      exact (bth Hbw.out hb5).setRow (by omega) _
end Go.Proofs.YtchpoggegdocpaaDoor
