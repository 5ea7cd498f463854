/- lamport.Leaf -/
import Derived.Test.YtchpoggegdocpaaDoorLamPublic
import Derived.Test.YtchpoggegdocpaaDoorBuilder2
import Derived.Test.YtchpoggegdocpaaDoorSlices
set_option maxRecDepth 100000
namespace Go.Proofs.YtchpoggegdocpaaDoor
open Go.RowKit Go.Spec
def leafK (hs : List (List UInt8)) : List UInt8 := if hs.length = 512 then sumL (4 :: hs.flatten) else zero32
theorem leafK_len (hs : List (List UInt8)) : (leafK hs).length = 32 := by
  unfold leafK; split
  · exact sumL_len _
  · rfl
set_option maxHeartbeats 1000000 in
theorem lleaf_no (v : Value) (hs : List (List UInt8)) (w : World) (hS : SlAt w 32 v (hcs hs)) (hl : hs.length ≤ 1000000) (hn : hs.length ≠ 512) :
    Calls Tryd.prog 27 #[v] w fun e w' => e = .returned (hv zero32) ∧ Below w.heap.size w w' := by
  obtain ⟨a, cap, rfl, hcap⟩ := hS.formH
  have HB : Below w.heap.size w (w.alloc (.cells (hc zero32) 42)) := (Below.refl _ w).alloc (Nat.le_refl _) _
  have hZ : Blk (w.alloc (.cells (hc zero32) 42)) w.heap.size (hc zero32) 42 := Blk.new _ _ _
  have Hs := hid (show (Tryd.prog.info? 42).map (·.size) = some (hc zero32).size by kernel_rfl)
  have hd : ((hs.length : Int) != 512) = true := by simp; omega
  clear hS hn
  go_enter Tryd.func27, Tryd.ntmps27
  go_wp2_with (first
    | ((with_reducible show wpList _ _ _ ({ dst := _, op := Op.build _ _, type := _, pos := _, after := _, guard := _ } :: _) _ _); refine wpList_build0 rfl 42 rfl (hv zero32) (Tryd.zeroHash _) ?_)
    | ((with_reducible show wpList _ _ _ ({ dst := _, op := Op.store _ _ _, type := _, pos := _, after := _, guard := _ } :: _) _ _); refine wpList_store_blk rfl 42 _ _ rfl w.heap.size rfl (hc zero32) rfl _ _ hZ rfl Hs.out (hc_row_one _) ?_))
  refine bodyPost_ret (results_cell_row rfl _ _ w.heap.size 42 _ (0, 0) _ rfl (hZ.setRow) Tryd.underlying42 rfl Hs.out) rfl ⟨rfl, ?_⟩
  exact HB.setRow (by omega) _
set_option maxHeartbeats 2000000 in
theorem lleaf_yes (v : Value) (hs : List (List UInt8)) (w : World) (hS : SlAt w 32 v (hcs hs)) (hn : hs.length = 512) (hG : ShaG w) :
    Calls Tryd.prog 27 #[v] w fun e w' => e = .returned (hv (sumL (4 :: hs.flatten))) ∧ Below w.heap.size w w' := by
  have HG := hid hG; clear hG
  obtain ⟨a, cap, rfl, hcap⟩ := hS.formH
  have HS := hid hS
  have H32 := hid hS.len32
  have HN := hid hn
  rw [hn] at HS hcap ⊢
  have hfl := flatten_len hS.len32
  clear hS
  have HB1 : Below w.heap.size w (w.alloc (.cells (hc zero32) 42)) := (Below.refl _ w).alloc (Nat.le_refl _) _
  have hZ : Blk ((w.alloc (.cells (hc zero32) 42)).alloc (.cells #[.pointer none, .slice none 0 0] 66)) w.heap.size (hc zero32) 42 := (Blk.new _ _ _).alloc _
  have hR := sumL_len (4 :: hs.flatten)
  have Hsum := hid (fun w0 h0 => sum_any (4 :: hs.flatten) w0 (by simp only [List.length_cons]; omega) h0)
  have Hs := hid (show (Tryd.prog.info? 42).map (·.size) = some (hc (sumL (4 :: hs.flatten))).size by rw [hc_size, hR]; exact Tryd.sizeHash)
  have Hz := hid (show (hc (sumL (4 :: hs.flatten))).size = (hc zero32).size by rw [hc_size, hR]; rfl)
  clear hR hfl
  generalize sumL (4 :: hs.flatten) = R at *
  clear hn
  go_enter Tryd.func27, Tryd.ntmps27
  go_upto_region 4 with fail
  show Code.wp _ _ _ _ ((w.alloc (.cells (hc zero32) 42)).alloc (.cells #[.pointer none, .slice none 0 0] 66))
  have hB0 : Bld (w.heap.size + 1) none [] ((w.alloc (.cells (hc zero32) 42)).alloc (.cells #[.pointer none, .slice none 0 0] 66)) := by
    have := IsB.fresh 66 5 (w.alloc (.cells (hc zero32) 42))
    simpa using this
  have hb0 : Below w.heap.size w ((w.alloc (.cells (hc zero32) 42)).alloc (.cells #[.pointer none, .slice none 0 0] 66)) := HB1.alloc (by simp) _
  generalize ((w.alloc (.cells (hc zero32) 42)).alloc (.cells #[.pointer none, .slice none 0 0] 66)) = w0 at *
  obtain ⟨g, hg⟩ : ∃ g, w.heap.size + 1 = g := ⟨_, rfl⟩
  rw [hg] at hB0
  simp only [hg]
  have Hg := hid hg; clear hg
  have HZ := hid hZ; clear hZ HB1
  go_wp2_with fail
  refine (wb_any g none [] 4 _ hB0 (by decide)).mono ?_
  rintro e w1 ⟨rfl, hw1⟩
  obtain ⟨r1, hB1, hr1⟩ := hw1.ex
  have Hb1 := hid (hw1.below hB0)
  have HB1 := hid hB1
  have Hb0 := hid hb0
  clear hB0 hw1 hr1 hB1 hb0
  go_wp2_with fail
  go_loopw [13] (fun i wr => ∃ (k : Nat) (r : Option Nat), k ≤ 512 ∧ i = .int .i64 (k : Int) ∧ Bld g r (4 :: (hs.take k).flatten) wr ∧ Below g w0 wr) (fun i _ => 512 - (intOf i).toNat)
  case atStart => exact ⟨0, r1, by omega, rfl, by simpa using HB1.out, Hb1.out⟩
  case round =>
    obtain ⟨k, r, hk, rfl, hB, hb⟩ := hrel
    clear HB1 Hb1
    have Hbw := hid (Hb0.out.trans (hb.mono (show w.heap.size ≤ g by have := Hg.out; omega)))
    have hfl := flatten_len (hs := hs.take k) (fun x hx => H32.out x (List.mem_of_mem_take hx))
    rw [List.length_take] at hfl
    by_cases hlt : k < 512
    · have hd : decide ((k : Int) < 512) = true := by simp; omega
      have hkl : k < hs.length := by rw [HN.out]; exact hlt
      obtain ⟨b, o, rfl, hbl, hcl, hcell⟩ := (HS.out.below Hbw.out (Nat.le_refl _)).at (i := k) (cs := hs[k].map bcell) (by simp [hcs, hkl])
      have hX := H32.out _ (List.getElem_mem hkl)
      have Hnext := hid (show 4 :: (hs.take (k + 1)).flatten = (4 :: (hs.take k).flatten) ++ hs[k] by rw [List.take_succ_eq_append_getElem hkl, List.flatten_append, List.flatten_singleton]; rfl)
      have hLl : (4 :: (hs.take k).flatten).length ≤ 20000 := by simp only [List.length_cons]; omega
      have hB2 := hB
      generalize (4 :: (hs.take k).flatten) = L at *
      generalize hs[k] = X at *
      have Hsx := hid (show (Tryd.prog.info? 42).map (·.size) = some X.length by rw [hX]; exact Tryd.sizeHash)
      have HX := hid hX
      have Hcell := hid hcell
      have Hh := hid (fun w0 => hash_any X w0 hX)
      have HBd := hid hB
      have HLl := hid hLl
      clear hX hcell hcl hkl hB hB2 hfl hLl
      go_wp2_with (first
        | (refine wpList_load_hc rfl 42 _ rfl ⟨b, o + k * 32, none⟩ rfl X _ Hcell.out Tryd.underlying42 rfl Hsx.out ?_)
        | ((with_reducible show wpList _ _ _ ({ dst := _, op := Op.store _ _ _, type := _, pos := _, after := _, guard := _ } :: _) _ _); refine wpList_store_new rfl 42 _ _ rfl rfl X rfl (hc zero32) 42 (by rw [HX.out]; rfl) Hsx.out ?_)
        | (refine wpList_load_new rfl 42 _ rfl rfl X 42 _ Tryd.underlying42 rfl Hsx.out ?_)
        | (go_at_call 36; refine (Hh.out _).mono ?_; rintro e w2 ⟨rfl, hb2⟩))
      have hA := ((Below.refl _ wr).alloc (Nat.le_refl _) (.cells (hc X) 42))
      have hB3 := ((HBd.out.below hA).below hb2)
      have HA := hid (bth hA hb2)
      refine (ws_any g r L X _ hB3 (by rw [HX.out]; have := HLl.out; omega)).mono ?_
      rintro e w3 ⟨rfl, hw3⟩
      obtain ⟨r3, hB4, hr3⟩ := hw3.ex
      have hb3 := hw3.below hB3
      go_wp2
      go_roundw
      case rel => exact ⟨k + 1, r3, by omega, by go_num, by rw [Hnext.out]; exact hB4, (hb.trans (HA.out.mono (Nat.le_of_lt HBd.out.lt))).trans hb3⟩
      case measure => simp [intOf]; omega
    · obtain rfl : k = 512 := by omega
      have hd : decide ((512 : Int) < 512) = false := by decide
      have Htk := hid (show hs.take 512 = hs from List.take_of_length_le (by rw [HN.out]; exact Nat.le_refl _))
      rw [Htk.out] at hB
      have HBd := hid hB
      clear hB hfl
      go_wp2_with (first
        | (go_at_call 39; refine (bstring_any _ _ _ _ HBd.out (by simp)).mono ?_; rintro e w4 ⟨rfl, hw4⟩; have hb4 := hw4.below (B := g) (Nat.le_of_lt HBd.out.lt) (fun j hj => by have := HBd.out.row j hj; omega); have hZ4 := (HZ.out.below hb (by have := Hg.out; omega)).below hb4 (by have := Hg.out; omega); have Hb4 := hid (Hbw.out.trans (hb4.mono (show w.heap.size ≤ g by have := Hg.out; omega))))
        | (go_at_call 41; refine (Hsum.out _ (HG.out.later Hb4.out)).mono ?_; rintro e w5 ⟨rfl, hb5⟩)
        | ((with_reducible show wpList _ _ _ ({ dst := _, op := Op.store _ _ _, type := _, pos := _, after := _, guard := _ } :: _) _ _); refine wpList_store_blk rfl 42 _ _ rfl w.heap.size rfl (hc R) rfl _ _ (hZ4.later hb5) Hz.out Hs.out (hc_row_one _) ?_))
      refine bodyPost_ret (results_cell_row rfl _ _ w.heap.size 42 _ (0, 0) _ rfl ((hZ4.later hb5).setRow) Tryd.underlying42 rfl Hs.out) rfl ⟨rfl, ?_⟩
      exact (bth Hb4.out hb5).setRow (by omega) _
end Go.Proofs.YtchpoggegdocpaaDoor
