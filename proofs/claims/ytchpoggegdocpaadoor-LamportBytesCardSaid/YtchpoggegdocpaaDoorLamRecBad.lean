/- lamport.Recover, speculumref08.Recover: what is no signature -/
import Derived.Test.YtchpoggegdocpaaDoorLamSign
import Derived.Test.YtchpoggegdocpaaDoorLamRefLeaf
set_option maxRecDepth 100000
namespace Go.Proofs.YtchpoggegdocpaaDoor
open Go.RowKit Go.Spec
set_option maxHeartbeats 1000000 in
theorem recover_bad (sig d : List UInt8) (w : World) (hs : sig.length ≤ 9223372036854775807) (hn : sig.length ≠ 16384) :
    Calls Tryd.prog 22 #[sv sig, hv d] w fun e w' => e = .returned (.tuple #[hv zero32, .int .i64 10]) ∧ Below w.heap.size w w' := by
  have HB : Below w.heap.size w ((w.alloc (.cells (hc d) 42)).alloc (.cells (hc zero32) 42)) := ((Below.refl _ w).alloc (Nat.le_refl _) _).alloc (by simp) _
  have hZ : Blk ((w.alloc (.cells (hc d) 42)).alloc (.cells (hc zero32) 42)) (w.heap.size + 1) (hc zero32) 42 := Blk.new' _ _ _ (by simp)
  have Hs := hid (show (Tryd.prog.info? 42).map (·.size) = some (hc zero32).size by kernel_rfl)
  have hd : ((sig.length : Int) != 16384) = true := by simp; omega
  clear hn
  go_enter Tryd.func22, Tryd.ntmps22
  go_wp2_with (first
    | ((with_reducible show wpList _ _ _ ({ dst := _, op := Op.build _ _, type := _, pos := _, after := _, guard := _ } :: _) _ _); refine wpList_build0 rfl 42 rfl (hv zero32) (Tryd.zeroHash _) ?_)
    | ((with_reducible show wpList _ _ _ ({ dst := _, op := Op.store _ _ _, type := _, pos := _, after := _, guard := _ } :: _) _ _); refine wpList_store_blk rfl 42 _ _ rfl (w.heap.size + 1) rfl (hc zero32) rfl _ _ hZ rfl Hs.out (hc_row_one _) ?_))
  refine bodyPost_ret (results_cell2 rfl _ (w.heap.size + 1) 42 _ (0, 0) _ rfl (hZ.setRow) Tryd.underlying42 rfl Hs.out) rfl ⟨rfl, ?_⟩
  exact HB.setRow (by omega) _
set_option maxHeartbeats 1000000 in
theorem rrecover_bad (sig d : List UInt8) (w : World) (hs : sig.length ≤ 9223372036854775807) (hn : sig.length ≠ 16384) :
    Calls Tryd.prog 23 #[sv sig, hv d] w fun e w' => e = .returned (.tuple #[hv zero32, .int .i64 10]) ∧ Below w.heap.size w w' := by
  have HB : Below w.heap.size w ((w.alloc (.cells (hc d) 42)).alloc (.cells (hc zero32) 42)) := ((Below.refl _ w).alloc (Nat.le_refl _) _).alloc (by simp) _
  have hZ : Blk ((w.alloc (.cells (hc d) 42)).alloc (.cells (hc zero32) 42)) (w.heap.size + 1) (hc zero32) 42 := Blk.new' _ _ _ (by simp)
  have Hs := hid (show (Tryd.prog.info? 42).map (·.size) = some (hc zero32).size by kernel_rfl)
  have hd : ((sig.length : Int) != 16384) = true := by simp; omega
  clear hn
  go_enter Tryd.func23, Tryd.ntmps23
  go_wp2_with (first
    | ((with_reducible show wpList _ _ _ ({ dst := _, op := Op.build _ _, type := _, pos := _, after := _, guard := _ } :: _) _ _); refine wpList_build0 rfl 42 rfl (hv zero32) (Tryd.zeroHash _) ?_)
    | ((with_reducible show wpList _ _ _ ({ dst := _, op := Op.store _ _ _, type := _, pos := _, after := _, guard := _ } :: _) _ _); refine wpList_store_blk rfl 42 _ _ rfl (w.heap.size + 1) rfl (hc zero32) rfl _ _ hZ rfl Hs.out (hc_row_one _) ?_))
  refine bodyPost_ret (results_cell2 rfl _ (w.heap.size + 1) 42 _ (0, 0) _ rfl (hZ.setRow) Tryd.underlying42 rfl Hs.out) rfl ⟨rfl, ?_⟩
  exact HB.setRow (by omega) _
end Go.Proofs.YtchpoggegdocpaaDoor
