/- lamport.Recover: a signature -/
import Derived.Test.YtchpoggegdocpaaDoorLamRecBad
set_option maxRecDepth 100000
namespace Go.Proofs.YtchpoggegdocpaaDoor
open Go.RowKit Go.Spec
def recX (sig : List UInt8) (k : Nat) : List UInt8 := (sig.take (k * 32 + 32)).drop (k * 32)
def recY (sig : List UInt8) (k : Nat) : List UInt8 := (sig.drop (8192 + k * 32)).take 32
def recS (sig d : List UInt8) (k : Nat) (L : List (List UInt8)) : List (List UInt8) := (L.set (2 * k + bitL d k) (shownL (recX sig k))).set (2 * k + 1 - bitL d k) (recY sig k)
def recL (sig d : List UInt8) : Nat → List (List UInt8)
  | 0 => List.replicate 512 zero32
  | k + 1 => recS sig d k (recL sig d k)
theorem recL_len (sig d : List UInt8) : ∀ k, (recL sig d k).length = 512
  | 0 => by unfold recL; rw [List.length_replicate]
  | k + 1 => by unfold recL recS; rw [List.length_set, List.length_set]; exact recL_len sig d k
def recK (sig d : List UInt8) : List UInt8 := sumL (4 :: (recL sig d 256).flatten)
theorem recK_len (sig d : List UInt8) : (recK sig d).length = 32 := sumL_len _
theorem recX_len (sig : List UInt8) (k : Nat) (hs : sig.length = 16384) (hk : k < 256) : (recX sig k).length = 32 := by unfold recX; rw [List.length_drop, List.length_take]; omega
theorem recY_len (sig : List UInt8) (k : Nat) (hs : sig.length = 16384) (hk : k < 256) : (recY sig k).length = 32 := by unfold recY; rw [List.length_take, List.length_drop]; omega
set_option maxHeartbeats 4000000 in
theorem recover_yes (sig d : List UInt8) (w : World) (hs : sig.length = 16384) (hdl : d.length = 32) (hG : ShaG w) :
    Calls Tryd.prog 22 #[sv sig, hv d] w fun e w' => e = .returned (.tuple #[hv (recK sig d), .int .i64 0]) ∧ Below w.heap.size w w' := by
  have HG := hid hG; clear hG
  obtain ⟨i0, hi, hz0, hz1, hz2⟩ := info_parts Tryd.infoHashP
  have HA : Below w.heap.size w ((w.alloc (.cells (hc d) 42)).alloc (.cells (hc zero32) 42)) := ((Below.refl _ w).alloc (Nat.le_refl _) _).alloc (by simp) _
  have hZ : Blk ((w.alloc (.cells (hc d) 42)).alloc (.cells (hc zero32) 42)) (w.heap.size + 1) (hc zero32) 42 := Blk.new' _ _ _ (by simp)
  have hD : Blk ((w.alloc (.cells (hc d) 42)).alloc (.cells (hc zero32) 42)) w.heap.size (hc d) 42 := (Blk.new _ _ _).alloc _
  have Hsd := hid (show (Tryd.prog.info? 42).map (·.size) = some (hc d).size by rw [hc_size, hdl]; exact Tryd.sizeHash)
  have Hd := hid (fun w0 => hash_any d w0 hdl)
  have hd0 : ((sig.length : Int) != 16384) = false := by simp; omega
  have HSL := hid hs
  have hsl1 : 16384 ≤ sig.length := by omega
  have hsl2 : sig.length ≤ 16384 := by omega
  have HDL := hid hdl
  clear hs hdl
  have hmk := run_make_hashes (P := Tryd.prog) 49 42 i0 Tryd.underlying49 hi hz0 hz1 hz2 512 (by omega) 512 rfl
  go_enter Tryd.func22, Tryd.ntmps22
  go_upto_region 4 with (first
    | ((with_reducible show wpList _ _ _ ({ dst := _, op := Op.load 42 _, type := _, pos := _, after := _, guard := _ } :: _) _ _); refine wpList_load_blk rfl 42 _ rfl w.heap.size rfl _ (hc d) _ hD Tryd.underlying42 rfl Hsd.out ?_)
    | (go_at_call 36; refine (Hd.out _).mono ?_; rintro e w2 ⟨rfl, hb2⟩))
  have HB2 := bth HA hb2
  have hZ2 := hZ.later hb2
  clear hb2 hD hZ HA
  have hB0 : HsBlk (w2.alloc (.cells (hc (List.replicate 512 zero32).flatten) 42)) w2.heap.size (List.replicate 512 zero32) 42 := ⟨Blk.new _ _ _, fun x hx => by rw [List.eq_of_mem_replicate hx]; rfl⟩
  generalize hfl : hc (List.replicate 512 zero32).flatten = fl at *
  have Hfl := hid hfl; clear hfl
  go_upto_region 5 with fail
  show Code.wp _ _ _ _ (w2.alloc (.cells fl 42))
  have HB3 := hid (HB2.alloc HB2.size (.cells fl 42))
  have hZ3 := hZ2.alloc (.cells fl 42)
  have hzl := hZ2.lt
  have hwl := HB2.size
  generalize hw3 : w2.alloc (.cells fl 42) = w3 at *
  generalize hgp : w2.heap.size = gp at *
  clear hw3 hgp HB2 hZ2
  have HB0 := hid hB0; have HZ3 := hid hZ3
  clear hB0 hZ3
  go_wp2_with fail
  go_loopw [19] (fun i wr => ∃ k : Nat, k ≤ 256 ∧ i = .int .i64 (k : Int) ∧ HsBlk wr gp (recL sig d k) 42 ∧ Below gp w3 wr) (fun i _ => 256 - (intOf i).toNat)
  case atStart => exact ⟨0, by omega, rfl, HB0.out, Below.refl _ _⟩
  case round =>
    obtain ⟨k, hk, rfl, hB, hb⟩ := hrel
    clear HB0
    have Hbw := hid (HB3.out.trans (hb.mono hwl))
    have HBk := hid hB
    clear hB
    by_cases hlt : k < 256
    · have hdk : decide ((k : Int) < 256) = true := by simp; omega
      have hbl := bitL_lt d k
      have HBit := hid (fun w0 => bit_any d k w0 HDL.out hlt)
      have Hnx := hid (show recL sig d (k + 1) = recS sig d k (recL sig d k) from rfl)
      unfold recS at Hnx
      have HLen := hid (recL_len sig d k)
      have HX := hid (recX_len sig k HSL.out hlt)
      have HY := hid (recY_len sig k HSL.out hlt)
      have Hsh := hid (shownL_len (recX sig k))
      generalize bitL d k = bt at *
      obtain ⟨p, hp⟩ : ∃ p, 2 * k + bt = p := ⟨_, rfl⟩
      obtain ⟨q, hq⟩ : ∃ q, 2 * k + 1 - bt = q := ⟨_, rfl⟩
      have ep : 2 * (k : Int) + (bt : Int) = (p : Int) := by omega
      have eq : 2 * (k : Int) + 1 - (bt : Int) = (q : Int) := by omega
      rw [hp, hq] at Hnx
      have hp5 : p < 512 := by omega
      have hq5 : q < 512 := by omega
      clear hp hq
      obtain ⟨m0, hm0⟩ : ∃ m0, k * 32 = m0 := ⟨_, rfl⟩
      obtain ⟨m1, hm1⟩ : ∃ m1, k * 32 + 32 = m1 := ⟨_, rfl⟩
      obtain ⟨m2, hm2⟩ : ∃ m2, 8192 + k * 32 = m2 := ⟨_, rfl⟩
      have e0 : (k : Int) * 32 = (m0 : Int) := by omega
      have e1 : ((k : Int) + 1) * 32 = (m1 : Int) := by omega
      have e2 : (256 + (k : Int)) * 32 = (m2 : Int) := by omega
      have hm01 : m0 ≤ m1 := by omega
      have hm1s : m1 ≤ sig.length := by omega
      have hm2s : m2 + 32 ≤ sig.length := by omega
      have HXe := hid (show (sig.take m1).drop m0 = recX sig k by unfold recX; rw [hm1, hm0])
      have HYe := hid (show (sig.drop m2).take 32 = recY sig k by unfold recY; rw [hm2])
      have W := hid (show ∀ w0, ShaG w0 → Calls Tryd.prog 45 #[sv ((sig.take m1).drop m0)] w0 fun e w' => e = .returned (hv (shownL (recX sig k))) ∧ Below w0.heap.size w0 w' by
        rw [HXe.out]; exact fun w0 h0 => shown_any (recX sig k) w0 (by rw [HX.out]; omega) h0)
      have Un := hid (fun w0 => unhash_yes (sig.drop m2) w0 (by rw [List.length_drop]; omega) (by rw [List.length_drop]; omega))
      rw [HYe.out] at Un
      clear hm0 hm1 hm2 HYe
      generalize recX sig k = X at *
      generalize recY sig k = Y at *
      generalize shownL X = S at *
      generalize recL sig d k = L at *
      go_upto_region 9 with (first
        | (go_at_call 37; refine (HBit.out _).mono ?_; rintro e w7 ⟨rfl, rfl⟩))
      refine wp_region_later (by kernel_rfl) (by kernel_rfl) ?_
      repeat go_big_quiet_step (fail)
      refine wpQuiet_nil ?_
      rintro _ ⟨q9, rfl⟩
      have hb9 := lat_below q9
      generalize lat q9 = w9 at *
      have Hb9 := hid (hb.trans (hb9.mono (Nat.le_of_lt HBk.out.1.lt)))
      have HBk9 := hid (HBk.out.later hb9)
      have Hbw9 := hid (bth Hbw.out hb9)
      clear hb9
      go_wp2_with (first
        | (go_at_call 45; refine (W.out _ (HG.out.later Hbw9.out)).mono ?_; rintro e w4 ⟨rfl, hb4⟩)
        | (go_at_call 46; refine (Un.out _).mono ?_; rintro e w6 ⟨rfl, hb6⟩)
        | ((with_reducible show wpList _ _ _ ({ dst := _, op := Op.store _ _ _, type := _, pos := _, after := _, guard := _ } :: _) _ _); refine wpList_store_hash rfl 42 _ _ rfl gp p rfl S rfl L 42 (HBk9.out.later hb4) Hsh.out (by rw [HLen.out]; exact hp5) Tryd.sizeHash ?_; intro w5 hB5 hb5)
        | ((with_reducible show wpList _ _ _ ({ dst := _, op := Op.store _ _ _, type := _, pos := _, after := _, guard := _ } :: _) _ _); refine wpList_store_hash rfl 42 _ _ rfl gp q rfl Y rfl (L.set p S) 42 (hB5.later hb6) HY.out (by rw [List.length_set, HLen.out]; exact hq5) Tryd.sizeHash ?_; intro w8 hB8 hb8))
      have hgl := HBk9.out.1.lt
      go_roundw
      case rel => exact ⟨k + 1, by omega, by go_num, by rw [Hnx.out]; exact hB8, (((Hb9.out.trans (hb4.mono (by omega))).trans (hb5 gp (Nat.le_refl _))).trans (hb6.mono (Nat.le_of_lt hB5.1.lt))).trans (hb8 gp (Nat.le_refl _))⟩
      case measure => simp [intOf]; omega
    · obtain rfl : k = 256 := by omega
      have hdk : decide ((256 : Int) < 256) = false := by decide
      have HLen := hid (recL_len sig d 256)
      have Hres := hid (show recK sig d = sumL (4 :: (recL sig d 256).flatten) from rfl)
      have hR := recK_len sig d
      have Hs := hid (show (Tryd.prog.info? 42).map (·.size) = some (hc (recK sig d)).size by rw [hc_size, hR]; exact Tryd.sizeHash)
      have Hz := hid (show (hc (recK sig d)).size = (hc zero32).size by rw [hc_size, hR]; rfl)
      clear hR
      have hsl := HsBlk.sl HBk.out (by rw [HLen.out]; decide)
      rw [HLen.out] at hsl
      have W := hid (lleaf_yes _ _ wr hsl HLen.out (HG.out.later Hbw.out))
      rw [← Hres.out] at W
      generalize hRd : recK sig d = R at *
      have HRd := hid hRd; clear hRd
      have hZ4 := HZ3.out.below hb hzl
      go_wp2_with (first
        | (go_at_call 27; refine W.out.mono ?_; rintro e w5 ⟨rfl, hb5⟩)
        | ((with_reducible show wpList _ _ _ ({ dst := _, op := Op.store _ _ _, type := _, pos := _, after := _, guard := _ } :: _) _ _); refine wpList_store_blk rfl 42 _ _ rfl (w.heap.size + 1) rfl (hc R) rfl _ _ (hZ4.later hb5) Hz.out Hs.out (hc_row_one _) ?_))
      refine bodyPost_ret (results_cell2 rfl _ (w.heap.size + 1) 42 _ (0, 0) _ rfl ((hZ4.later hb5).setRow) Tryd.underlying42 rfl Hs.out) rfl ⟨by rw [HRd.out]; rfl, ?_⟩
      exact (bth Hbw.out hb5).setRow (by omega) _
end Go.Proofs.YtchpoggegdocpaaDoor
