/- speculumref04.Root: the short ways, and the whole -/
import Derived.Test.YtdllaenbkfajdaaDoorTreeRRoot
import Derived.Test.YtdllaenbkfajdaaDoorShaRefSum
set_option maxRecDepth 100000
namespace Go.Proofs.YtdllaenbkfajdaaDoor
open Go.RowKit Go.Spec
set_option maxHeartbeats 2000000 in
theorem rroot_nil (v : Value) (w : World) (hS : SlAt w 32 v (hcs [])) :
    Calls Tryd.prog 14 #[v] w fun e w' => e = .returned (hv (sumL [])) ∧ Below w.heap.size w w' := by
  obtain ⟨a, cap, rfl, hcap⟩ := hS.formH
  have HB : Below w.heap.size w (w.alloc (.cells (hc zero32) 25)) := (Below.refl _ w).alloc (Nat.le_refl _) _
  have hZ : Blk (w.alloc (.cells (hc zero32) 25)) w.heap.size (hc zero32) 25 := Blk.new _ _ _
  clear hS
  rw [show ([] : List (List UInt8)).length = 0 from rfl]
  have d0 : (((0 : Nat) : Int) == 0) = true := rfl
  have hs3 := Tryd.sizeHash
  have Hx := hid (sumL_len [])
  have Hs := hid (show (Tryd.prog.info? 25).map (·.size) = some (hc (sumL [])).size by rw [hc_size, sumL_len]; exact Tryd.sizeHash)
  have Hz := hid (show (hc (sumL [])).size = (hc zero32).size by rw [hc_size, sumL_len]; rfl)
  have Hsum := hid (fun w0 => rsum_any [] w0 (by decide))
  generalize sumL [] = S at *
  go_enter Tryd.func14, Tryd.ntmps14
  go_wp2_with (first
    | (refine wpList_store_blk rfl 25 _ _ rfl w.heap.size rfl (hc S) rfl _ _ (hZ.later hb1) Hz.out Hs.out (hc_row_one _) ?_)
    | (go_at_call 24; refine (Hsum.out _).mono ?_; rintro e w1 ⟨rfl, hb1⟩))
  replace HB := bth HB hb1
  replace hZ := hZ.later hb1
  refine bodyPost_ret (results_cell_row rfl _ _ w.heap.size 25 _ (0, 0) _ rfl (hZ.setRow) Tryd.underlying25 rfl Hs.out) rfl ⟨rfl, ?_⟩
  exact HB.setRow (by omega) _
set_option maxHeartbeats 2000000 in
theorem rroot_one (x : List UInt8) (v : Value) (w : World) (hS : SlAt w 32 v (hcs [x])) :
    Calls Tryd.prog 14 #[v] w fun e w' => e = .returned (hv x) ∧ Below w.heap.size w w' := by
  obtain ⟨a, cap, rfl, hcap⟩ := hS.formH
  have HB : Below w.heap.size w (w.alloc (.cells (hc zero32) 25)) := (Below.refl _ w).alloc (Nat.le_refl _) _
  have hZ : Blk (w.alloc (.cells (hc zero32) 25)) w.heap.size (hc zero32) 25 := Blk.new _ _ _
  have hx : x.length = 32 := hS.len32 x (by simp)
  have hS1 := hS.below HB (Nat.le_refl _)
  obtain ⟨b, o, rfl, hbl, hcl, hcell⟩ := hS1.at (i := 0) (cs := x.map bcell) (by simp [hcs])
  clear hS hS1
  rw [show o + 0 * 32 = o by omega] at hcell
  rw [show [x].length = 1 from rfl]
  have d0 : (((1 : Nat) : Int) == 0) = false := rfl
  have d1 : (((1 : Nat) : Int) == 1) = true := rfl
  have hs3 := Tryd.sizeHash
  have Hs := hid (show (Tryd.prog.info? 25).map (·.size) = some (hc x).size by rw [hc_size, hx]; exact Tryd.sizeHash)
  have Hz := hid (show (hc x).size = (hc zero32).size by rw [hc_size, hx]; rfl)
  have Hsx := hid (show (Tryd.prog.info? 25).map (·.size) = some x.length by rw [hx]; exact Tryd.sizeHash)
  have Hcell := hid hcell
  clear hcell hcl
  go_enter Tryd.func14, Tryd.ntmps14
  go_wp2_with (first
    | (refine wpList_load_hc rfl 25 _ rfl ⟨b, o, none⟩ rfl x _ Hcell.out Tryd.underlying25 rfl Hsx.out ?_)
    | (refine wpList_store_blk rfl 25 _ _ rfl w.heap.size rfl (hc x) rfl _ _ hZ Hz.out Hs.out (hc_row_one _) ?_))
  refine bodyPost_ret (results_cell_row rfl _ _ w.heap.size 25 _ (0, 0) _ rfl (hZ.setRow) Tryd.underlying25 rfl Hs.out) rfl ⟨rfl, ?_⟩
  exact HB.setRow (by omega) _
theorem rroot_at (n : Nat) : RRootAt n := by
  induction n with
  | zero =>
    intro hs v w hn hl hS
    obtain rfl : hs = [] := List.length_eq_zero_iff.mp (by omega)
    exact rroot_nil v w hS
  | succ n ih =>
    intro hs v w hn hl hS
    match hs, hn, hl, hS with
    | [], _, _, hS => exact rroot_nil v w hS
    | [x], _, _, hS => rw [rootL_one]; exact rroot_one x v w hS
    | x :: y :: l, hn, hl, hS => exact rroot_many n ih _ v w hn hl (by simp) hS
theorem rroot_any (hs : List (List UInt8)) (v : Value) (w : World) (hl : hs.length ≤ 1000000) (hS : SlAt w 32 v (hcs hs)) :
    Calls Tryd.prog 14 #[v] w fun e w' => e = .returned (hv (rootL hs)) ∧ Below w.heap.size w w' :=
  rroot_at hs.length hs v w (Nat.le_refl _) hl hS
end Go.Proofs.YtdllaenbkfajdaaDoor
