/- speculum/trees.Root -/
import Derived.Test.YtdllaenbkfajdaaDoorTreeRootM
set_option maxRecDepth 100000
namespace Go.Proofs.YtdllaenbkfajdaaDoor
open Go.RowKit Go.Spec
set_option maxHeartbeats 2000000 in
theorem root_nil (v : Value) (w : World) (hG : ShaG w) (hS : SlAt w 32 v (hcs [])) :
    Calls Tryd.prog 13 #[v] w fun e w' => e = .returned (hv (sumL [])) ∧ Below w.heap.size w w' := by
  obtain ⟨a, cap, rfl, hcap⟩ := hS.formH
  clear hS
  rw [show ([] : List (List UInt8)).length = 0 from rfl]
  have HG := hid hG; clear hG
  have d0 : (((0 : Nat) : Int) == 0) = true := rfl
  have hs3 := Tryd.sizeHash
  have Hs := hid (show (Tryd.prog.info? 25).map (·.size) = some (hc (sumL [])).size by rw [hc_size, sumL_len]; exact Tryd.sizeHash)
  have Hz := hid (show (hc (sumL [])).size = (hc zero32).size by rw [hc_size, sumL_len]; rfl)
  have Hsum := hid (fun w0 (h0 : ShaG w0) => sum_any [] w0 (by decide) h0)
  generalize sumL [] = S at *
  have HB : Below w.heap.size w ((w.alloc (.cells #[.slice a 0 cap] 22)).alloc (.cells (hc zero32) 25)) := ((Below.refl _ w).alloc (Nat.le_refl _) _).alloc (by simp) _
  have hZ : Blk ((w.alloc (.cells #[.slice a 0 cap] 22)).alloc (.cells (hc zero32) 25)) (w.heap.size + 1) (hc zero32) 25 := Blk.new' _ _ _ (by simp)
  go_enter Tryd.func13, Tryd.ntmps13
  go_wp2_with (first
    | ((with_reducible show wpList _ _ _ ({ dst := _, op := Op.store _ _ _, type := _, pos := _, after := _, guard := _ } :: _) _ _); refine wpList_store_blk rfl 25 _ _ rfl (w.heap.size + 1) rfl (hc S) rfl _ _ (hZ.later hb1) Hz.out Hs.out (hc_row_one _) ?_)
    | (go_at_call 23; refine (Hsum.out _ (HG.out.later HB)).mono ?_; rintro e w1 ⟨rfl, hb1⟩))
  replace HB := bth HB hb1
  replace hZ := hZ.later hb1
  refine bodyPost_ret (results_cell_row rfl _ _ (w.heap.size + 1) 25 _ (0, 0) _ rfl (hZ.setRow) Tryd.underlying25 rfl Hs.out) rfl ⟨rfl, ?_⟩
  exact HB.setRow (by omega) _
set_option maxHeartbeats 2000000 in
theorem root_some (hs : List (List UInt8)) (v : Value) (w : World) (h0 : 0 < hs.length) (hl : hs.length ≤ 1000000) (hG : ShaG w) (hS : SlAt w 32 v (hcs hs)) :
    Calls Tryd.prog 13 #[v] w fun e w' => e = .returned (hv (rootL hs)) ∧ Below w.heap.size w w' := by
  obtain ⟨a, cap, rfl, hcap⟩ := hS.formH
  have HG := hid hG; clear hG
  have hlen := rootL_len _ hs (Nat.le_refl _) hS.len32
  have d0 : ((hs.length : Int) == 0) = false := beq_eq_false_iff_ne.mpr (by omega)
  have hs3 := Tryd.sizeHash
  have Hs := hid (show (Tryd.prog.info? 25).map (·.size) = some (hc (rootL hs)).size by rw [hc_size, hlen]; exact Tryd.sizeHash)
  have Hz := hid (show (hc (rootL hs)).size = (hc zero32).size by rw [hc_size, hlen]; rfl)
  have Hroot := hid (fun w0 gl gr h1 h2 h3 h4 => rootc_any hs (.slice a hs.length cap) gl gr w0 hl h0 h1 h2 h3 h4)
  have H53 := hid (show (Tryd.prog.info? 53).map (·.size) = some 1 by kernel_rfl)
  clear hlen
  have HW : Hid (∀ cs cs' : Array Value, (((w.alloc (.cells #[.slice a hs.length cap] 22)).alloc (.cells (hc zero32) 25)).alloc (.cells cs 53)).setRow (w.heap.size + 1 + 1) cs' = ((w.alloc (.cells #[.slice a hs.length cap] 22)).alloc (.cells (hc zero32) 25)).alloc (.cells cs' 53)) := hid (by
    intro cs cs'
    have := setRow_alloc ((w.alloc (.cells #[.slice a hs.length cap] 22)).alloc (.cells (hc zero32) 25)) cs cs' 53 (0, 0)
    rw [← this]; congr 1; simp)
  have HB1 : Below w.heap.size w ((w.alloc (.cells #[.slice a hs.length cap] 22)).alloc (.cells (hc zero32) 25)) := ((Below.refl _ w).alloc (Nat.le_refl _) _).alloc (by simp) _
  have HB := HB1.alloc HB1.size (.cells #[rootFn w.heap.size (w.heap.size + 1 + 1)] 53)
  have hLx : Blk (((w.alloc (.cells #[.slice a hs.length cap] 22)).alloc (.cells (hc zero32) 25)).alloc (.cells #[rootFn w.heap.size (w.heap.size + 1 + 1)] 53)) w.heap.size #[.slice a hs.length cap] 22 := ((Blk.new _ _ _).alloc _).alloc _
  have hZ : Blk (((w.alloc (.cells #[.slice a hs.length cap] 22)).alloc (.cells (hc zero32) 25)).alloc (.cells #[rootFn w.heap.size (w.heap.size + 1 + 1)] 53)) (w.heap.size + 1) (hc zero32) 25 := (Blk.new' _ _ _ (by simp)).alloc _
  have hR : Blk (((w.alloc (.cells #[.slice a hs.length cap] 22)).alloc (.cells (hc zero32) 25)).alloc (.cells #[rootFn w.heap.size (w.heap.size + 1 + 1)] 53)) (w.heap.size + 1 + 1) #[rootFn w.heap.size (w.heap.size + 1 + 1)] 53 := Blk.new' _ _ _ (by simp)
  have hSx := hS.below HB (Nat.le_refl _)
  have HL := hid hLx; have HZ := hid hZ; have HR := hid hR; have HS := hid hSx
  clear hLx hZ hR hSx hS HB1
  go_enter Tryd.func13, Tryd.ntmps13
  go_wp2_with (first
    | (refine wpList_load_one rfl 22 _ rfl ⟨w.heap.size, 0, none⟩ rfl _ _ (Blk.cell1 HL.out) Tryd.underlying22 rfl ?_)
    | (refine wpList_load_one rfl 53 _ rfl ⟨w.heap.size + 1 + 1, 0, none⟩ rfl _ _ (Blk.cell1 HR.out) Tryd.underlying53 rfl ?_)
    | ((with_reducible show wpList _ _ _ ({ dst := _, op := Op.store 53 _ _, type := _, pos := _, after := _, guard := _ } :: _) _ _); refine wpList_store_oneW rfl 53 _ _ rfl (w.heap.size + 1 + 1) rfl (rootFn w.heap.size (w.heap.size + 1 + 1)) rfl _ 53 (Blk.new' _ _ _ (by simp)) H53.out rfl rfl _ (HW.out _ _) ?_)
    | ((with_reducible show wpList _ _ _ ({ dst := _, op := Op.store 25 _ _, type := _, pos := _, after := _, guard := _ } :: _) _ _); refine wpList_store_blk rfl 25 _ _ rfl (w.heap.size + 1) rfl (hc (rootL hs)) rfl _ _ (HZ.out.later hb1) Hz.out Hs.out (hc_row_one _) ?_)
    | (go_at_call 35; refine (Hroot.out _ _ _ (HG.out.later HB) HS.out HL.out HR.out).mono ?_; rintro e w1 ⟨rfl, hb1⟩))
  replace HB := bth HB hb1
  have hZ := HZ.out.later hb1
  refine bodyPost_ret (results_cell_row rfl _ _ (w.heap.size + 1) 25 _ (0, 0) _ rfl (hZ.setRow) Tryd.underlying25 rfl Hs.out) rfl ⟨rfl, ?_⟩
  exact HB.setRow (by omega) _
theorem root_any (hs : List (List UInt8)) (v : Value) (w : World) (hl : hs.length ≤ 1000000) (hG : ShaG w) (hS : SlAt w 32 v (hcs hs)) :
    Calls Tryd.prog 13 #[v] w fun e w' => e = .returned (hv (rootL hs)) ∧ Below w.heap.size w w' := by
  match hs, hl, hS with
  | [], _, hS => exact root_nil v w hG hS
  | x :: l, hl, hS => exact root_some _ v w (by simp) hl hG hS
end Go.Proofs.YtdllaenbkfajdaaDoor
