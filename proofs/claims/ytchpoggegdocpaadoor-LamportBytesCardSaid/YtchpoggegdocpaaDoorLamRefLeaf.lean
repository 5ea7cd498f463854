/- speculumref08.Leaf -/
import Derived.Test.YtchpoggegdocpaaDoorLamLeaf
import Derived.Test.YtchpoggegdocpaaDoorLamRefPublic
set_option maxRecDepth 100000
namespace Go.Proofs.YtchpoggegdocpaaDoor
open Go.RowKit Go.Spec
theorem Tryd.infoU8L : (Tryd.prog.info? 5).map (fun i => (i.zero, i.size, i.bytes)) = some (some (.int .u8 0), 1, 1) := by kernel_rfl
set_option maxHeartbeats 1000000 in
theorem rlleaf_no (v : Value) (hs : List (List UInt8)) (w : World) (hS : SlAt w 32 v (hcs hs)) (hl : hs.length ≤ 1000000) (hn : hs.length ≠ 512) :
    Calls Tryd.prog 28 #[v] w fun e w' => e = .returned (hv zero32) ∧ Below w.heap.size w w' := by
  obtain ⟨a, cap, rfl, hcap⟩ := hS.formH
  have HB : Below w.heap.size w (w.alloc (.cells (hc zero32) 42)) := (Below.refl _ w).alloc (Nat.le_refl _) _
  have hZ : Blk (w.alloc (.cells (hc zero32) 42)) w.heap.size (hc zero32) 42 := Blk.new _ _ _
  have Hs := hid (show (Tryd.prog.info? 42).map (·.size) = some (hc zero32).size by kernel_rfl)
  have hd : ((hs.length : Int) != 512) = true := by simp; omega
  clear hS hn
  go_enter Tryd.func28, Tryd.ntmps28
  go_wp2_with (first
    | ((with_reducible show wpList _ _ _ ({ dst := _, op := Op.build _ _, type := _, pos := _, after := _, guard := _ } :: _) _ _); refine wpList_build0 rfl 42 rfl (hv zero32) (Tryd.zeroHash _) ?_)
    | ((with_reducible show wpList _ _ _ ({ dst := _, op := Op.store _ _ _, type := _, pos := _, after := _, guard := _ } :: _) _ _); refine wpList_store_blk rfl 42 _ _ rfl w.heap.size rfl (hc zero32) rfl _ _ hZ rfl Hs.out (hc_row_one _) ?_))
  refine bodyPost_ret (results_cell_row rfl _ _ w.heap.size 42 _ (0, 0) _ rfl (hZ.setRow) Tryd.underlying42 rfl Hs.out) rfl ⟨rfl, ?_⟩
  exact HB.setRow (by omega) _
set_option maxHeartbeats 2000000 in
theorem rlleaf_yes (v : Value) (hs : List (List UInt8)) (w : World) (hS : SlAt w 32 v (hcs hs)) (hn : hs.length = 512) :
    Calls Tryd.prog 28 #[v] w fun e w' => e = .returned (hv (sumL (4 :: hs.flatten))) ∧ Below w.heap.size w w' := by
  obtain ⟨i0, hi, hz0, hz1, hz2⟩ := info_parts Tryd.infoU8L
  obtain ⟨a, cap, rfl, hcap⟩ := hS.formH
  have HS := hid hS
  have H32 := hid hS.len32
  have HN := hid hn
  rw [hn] at HS hcap ⊢
  have hfl := flatten_len hS.len32
  clear hS
  have hR := sumL_len (4 :: hs.flatten)
  have Hsum := hid (fun w0 => rsum_any (4 :: hs.flatten) w0 (by simp only [List.length_cons]; omega))
  have Hs := hid (show (Tryd.prog.info? 42).map (·.size) = some (hc (sumL (4 :: hs.flatten))).size by rw [hc_size, hR]; exact Tryd.sizeHash)
  have Hz := hid (show (hc (sumL (4 :: hs.flatten))).size = (hc zero32).size by rw [hc_size, hR]; rfl)
  clear hR hfl
  generalize sumL (4 :: hs.flatten) = R at *
  clear hn
  go_enter Tryd.func28, Tryd.ntmps28
  go_wp2
  go_loopw [3, 4] (fun v i wr => ∃ k : Nat, k ≤ 512 ∧ i = .int .i64 (k : Int) ∧ wr.ownsRow (w.heap.size + 1) 5 1 v (4 :: (hs.take k).flatten).length ((4 :: (hs.take k).flatten).map bcell) ∧ Below (w.heap.size + 1) (w.alloc (.cells (hc zero32) 42)) wr) (fun _ i _ => 512 - (intOf i).toNat)
  case atStart => exact ⟨0, by omega, rfl, by
      have h := ownsRow_lit (w := w.alloc (.cells (hc zero32) 42)) (base := w.heap.size + 1) (e := 5) (bcell 4) (by simp)
      rw [show (w.alloc (.cells (hc zero32) 42)).heap.size = w.heap.size + 1 by simp] at h
      exact h, (Below.refl _ _).alloc (by simp) _⟩
  case round =>
    obtain ⟨k, hk, rfl, hown, hb⟩ := hrel
    have Hbw := hid (((Below.refl w.heap.size w).alloc (Nat.le_refl _) (.cells (hc zero32) 42)).trans (hb.mono (show w.heap.size ≤ w.heap.size + 1 by omega)))
    have hsz : w.heap.size + 1 ≤ wr.heap.size := by have := hb.size; simpa using this
    have hfl := flatten_len (hs := hs.take k) (fun x hx => H32.out x (List.mem_of_mem_take hx))
    rw [List.length_take] at hfl
    by_cases hlt : k < 512
    · have hd : decide ((k : Int) < 512) = true := by simp; omega
      have hkl : k < hs.length := by rw [HN.out]; exact hlt
      obtain ⟨b, o, rfl, hbl, hcl, hcell⟩ := (HS.out.below Hbw.out (Nat.le_refl _)).at (i := k) (cs := hs[k].map bcell) (by simp [hcs, hkl])
      have hX := H32.out _ (List.getElem_mem hkl)
      have Hnext := hid (show 4 :: (hs.take (k + 1)).flatten = (4 :: (hs.take k).flatten) ++ hs[k] by rw [List.take_succ_eq_append_getElem hkl, List.flatten_append, List.flatten_singleton]; rfl)
      have hLl : (4 :: (hs.take k).flatten).length ≤ 20000 := by simp only [List.length_cons]; omega
      have Hown := hid hown
      clear hown
      generalize (4 :: (hs.take k).flatten) = L at *
      generalize hs[k] = X at *
      have HX := hid hX
      have Hcell := hid hcell
      clear hX hcell hcl hkl hfl
      go_wp2_with (at_builtin; go_must (refine wpList_app rfl _ _ 35 rfl (w.heap.size + 1) 5 i0 (.int .u8 0) 1 1 Tryd.underlying35 hi hz0 hz1 hz2 rfl (by decide) _ L.length (L.map bcell) rfl Hown.out ⟨b, o + k * 32, none⟩ 32 32 (X.map bcell) rfl ?c2 Hcell.out (bcell_one X) ?c5 ?c6 hsz ?_))
      case c2 => simp [HX.out]
      case c5 => unfold maxLen; omega
      case c6 => omega
      intro v' w5 hown5 hgrow hat
      go_wp2
      go_roundw
      case rel =>
        refine ⟨k + 1, by omega, by go_num, ?_, ?_⟩
        · rw [Hnext.out, List.length_append, List.map_append, HX.out]; exact hown5
        · exact hb.grown hgrow hsz (fun q hq => (Hown.out.lt q hq).1)
      case measure => simp [intOf]; omega
    · obtain rfl : k = 512 := by omega
      have hd : decide ((512 : Int) < 512) = false := by decide
      have Htk := hid (show hs.take 512 = hs from List.take_of_length_le (by rw [HN.out]; exact Nat.le_refl _))
      rw [Htk.out] at hown
      generalize (4 :: hs.flatten) = L at *
      have hcv := run_string_own (P := Tryd.prog) (w := wr) (l := L) 35 9 5 Tryd.underlying35 Tryd.underlying5 Tryd.underlying9 hown
      obtain ⟨av, cv, rfl, hcv2⟩ := ownsRow_form hown
      have hZ := (Blk.new w (hc zero32) 42).below hb (by omega)
      clear hown hfl
      go_wp2_with (first
        | (go_at_call 32; refine (Hsum.out _).mono ?_; rintro e w5 ⟨rfl, hb5⟩)
        | ((with_reducible show wpList _ _ _ ({ dst := _, op := Op.store _ _ _, type := _, pos := _, after := _, guard := _ } :: _) _ _); refine wpList_store_blk rfl 42 _ _ rfl w.heap.size rfl (hc R) rfl _ _ (hZ.later hb5) Hz.out Hs.out (hc_row_one _) ?_))
      refine bodyPost_ret (results_cell_row rfl _ _ w.heap.size 42 _ (0, 0) _ rfl ((hZ.later hb5).setRow) Tryd.underlying42 rfl Hs.out) rfl ⟨rfl, ?_⟩
      exact (bth Hbw.out hb5).setRow (by omega) _
end Go.Proofs.YtchpoggegdocpaaDoor
