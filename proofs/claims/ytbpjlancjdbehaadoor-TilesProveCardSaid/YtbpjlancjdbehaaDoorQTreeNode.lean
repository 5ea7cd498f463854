/- trees.Node, speculumref04.Node -/
import Derived.Test.YtbpjlancjdbehaaDoorQAnyOp
import Derived.Test.YtbpjlancjdbehaaDoorQTreeHash

set_option maxRecDepth 100000
namespace Go.Proofs.YtbpjlancjdbehaaDoor
open Go.RowKit Go.Spec
set_option maxHeartbeats 2000000 in
theorem node_any (a b : List UInt8) (w : World) (ha : a.length = 32) (hb : b.length = 32) (hG : ShaG w) :
    Calls Tryd.prog 40 #[hv a, hv b] w fun e w' => e = .returned (hv (nodeL a b)) ∧ Below w.heap.size w w' := by
  have HG := hid hG; clear hG
  have HA := hid ha; have HBb := hid hb; clear ha hb
  have W0 := hid (show ((w.alloc (.cells (hc a) 29)).alloc (.cells (hc b) 29)).heap.size = w.heap.size + 1 + 1 by simp)
  have HB : Below w.heap.size w (((w.alloc (.cells (hc a) 29)).alloc (.cells (hc b) 29)).alloc (.cells (hc zero32) 29)) := (((Below.refl _ w).alloc (Nat.le_refl _) _).alloc (by simp) _).alloc (by simp; omega) _
  have hA : Blk (((w.alloc (.cells (hc a) 29)).alloc (.cells (hc b) 29)).alloc (.cells (hc zero32) 29)) w.heap.size (hc a) 29 := ((Blk.new w _ _).alloc _).alloc _
  have hB : Blk (((w.alloc (.cells (hc a) 29)).alloc (.cells (hc b) 29)).alloc (.cells (hc zero32) 29)) (w.heap.size + 1) (hc b) 29 := (Blk.new' _ _ _ (by simp)).alloc _
  have hZ : Blk (((w.alloc (.cells (hc a) 29)).alloc (.cells (hc b) 29)).alloc (.cells (hc zero32) 29)) (w.heap.size + 1 + 1) (hc zero32) 29 := Blk.new' _ _ _ (by simp)
  have Hsa := hid (show (Tryd.prog.info? 29).map (·.size) = some (hc a).size by rw [hc_size, HA.out]; exact Tryd.sizeHash)
  have Hsb := hid (show (Tryd.prog.info? 29).map (·.size) = some (hc b).size by rw [hc_size, HBb.out]; exact Tryd.sizeHash)
  have Hs := hid (show (Tryd.prog.info? 29).map (·.size) = some (hc (nodeL a b)).size by rw [hc_size, nodeL_len]; exact Tryd.sizeHash)
  have Hl := hid (show (hc (nodeL a b)).size = (hc zero32).size by rw [hc_size, nodeL_len]; rfl)
  have HS : ∀ w0, ShaG w0 → Calls Tryd.prog 49 #[sv (1 :: (a ++ b))] w0 fun e w' => e = .returned (hv (nodeL a b)) ∧ Below w0.heap.size w0 w' := fun w0 h0 => sum_any (1 :: (a ++ b)) w0 (by simp [HA.out, HBb.out]) h0
  have HS := hid HS
  have la : a.length ≤ 32 := by rw [HA.out]; exact Nat.le_refl _
  have lb : b.length ≤ 32 := by rw [HBb.out]; exact Nat.le_refl _
  go_enter Tryd.func40, Tryd.ntmps40
  go_wp2_with fail
  refine wp_region_anyw (by kernel_rfl) ?_
  intro w0 he0 hb0
  replace HB := bth HB hb0
  replace hA := hA.heap (w' := w0) he0
  replace hB := hB.heap (w' := w0) he0
  replace hZ := hZ.heap (w' := w0) he0
  show wpAny _ _ _ _ 8 (Array.replicate 8 false) _ _
  refine wpAny_all (rs := [0, 3]) (by kernel_rfl) (by simp) ?_
  intro i hi
  have hi2 : i = 0 ∨ i = 3 := by simpa using hi
  clear hi
  rcases hi2 with rfl | rfl
  · refine wpOp_list rfl ?_
    refine wpList_load_blk rfl 29 _ rfl w.heap.size rfl _ (hc a) _ hA Tryd.underlying29 rfl Hsa.out ?_
    refine wpList_nil ?_
    refine wpAny_all (rs := [1, 3]) (by kernel_rfl) (by simp) ?_
    intro i hi
    have hi2 : i = 1 ∨ i = 3 := by simpa using hi
    clear hi
    rcases hi2 with rfl | rfl
    · refine wpOp_list rfl ?_
      go_wp2_with (go_at_call 65; refine (hash_any a _ HA.out).mono ?_; rintro e w1 ⟨rfl, hb1⟩)
      replace HB := bth HB hb1
      replace hA := hA.later hb1
      replace hB := hB.later hb1
      replace hZ := hZ.later hb1
      refine wpAny_take (i := 2) (v := sv (1 :: a)) rfl (by kernel_rfl) (by kernel_rfl) (by kernel_rfl) (fun _ _ _ h => h) (Or.inl ⟨by rfl, ?_⟩) ?_
      · intro w; go_simp
        try omega
      refine wpAny_forced (i := 3) (by kernel_rfl) rfl ?_
      refine wpList_load_blk rfl 29 _ rfl (w.heap.size + 1) rfl _ (hc b) _ hB Tryd.underlying29 rfl Hsb.out ?_
      refine wpList_nil ?_
      refine wpAny_forced (i := 4) (by kernel_rfl) rfl ?_
      go_wp2_with (go_at_call 65; refine (hash_any b _ HBb.out).mono ?_; rintro e w2 ⟨rfl, hb2⟩)
      replace HB := bth HB hb2
      replace hZ := hZ.later hb2
      refine wpAny_forced (i := 5) (by kernel_rfl) rfl ?_
      go_wp2_with fail
      refine wpAny_forced (i := 6) (by kernel_rfl) rfl ?_
      go_wp2_with (go_at_call 49; refine (HS.out _ (HG.out.later HB)).mono ?_; rintro e w3 ⟨rfl, hb3⟩)
      replace HB := bth HB hb3
      replace hZ := hZ.later hb3
      refine wpAny_forced (i := 7) (by kernel_rfl) rfl ?_
      refine wpList_store_blk rfl 29 _ _ rfl (w.heap.size + 1 + 1) rfl (hc (nodeL a b)) rfl _ _ hZ Hl.out Hs.out (hc_row_one _) ?_
      refine wpList_nil ?_
      refine wpAny_done (by kernel_rfl) ?_ _
      go_wp2
      refine bodyPost_ret (results_cell_row rfl _ _ (w.heap.size + 1 + 1) 29 _ (0, 0) _ rfl (hZ.setRow) Tryd.underlying29 rfl Hs.out) rfl ⟨rfl, ?_⟩
      exact HB.setRow (by omega) _
    · refine wpOp_list rfl ?_
      refine wpList_load_blk rfl 29 _ rfl (w.heap.size + 1) rfl _ (hc b) _ hB Tryd.underlying29 rfl Hsb.out ?_
      refine wpList_nil ?_
      refine wpAny_forced (i := 1) (by kernel_rfl) rfl ?_
      go_wp2_with (go_at_call 65; refine (hash_any a _ HA.out).mono ?_; rintro e w1 ⟨rfl, hb1⟩)
      replace HB := bth HB hb1
      replace hA := hA.later hb1
      replace hB := hB.later hb1
      replace hZ := hZ.later hb1
      refine wpAny_take (i := 2) (v := sv (1 :: a)) rfl (by kernel_rfl) (by kernel_rfl) (by kernel_rfl) (fun _ _ _ h => h) (Or.inl ⟨by rfl, ?_⟩) ?_
      · intro w; go_simp
        try omega
      refine wpAny_forced (i := 4) (by kernel_rfl) rfl ?_
      go_wp2_with (go_at_call 65; refine (hash_any b _ HBb.out).mono ?_; rintro e w2 ⟨rfl, hb2⟩)
      replace HB := bth HB hb2
      replace hZ := hZ.later hb2
      refine wpAny_forced (i := 5) (by kernel_rfl) rfl ?_
      go_wp2_with fail
      refine wpAny_forced (i := 6) (by kernel_rfl) rfl ?_
      go_wp2_with (go_at_call 49; refine (HS.out _ (HG.out.later HB)).mono ?_; rintro e w3 ⟨rfl, hb3⟩)
      replace HB := bth HB hb3
      replace hZ := hZ.later hb3
      refine wpAny_forced (i := 7) (by kernel_rfl) rfl ?_
      refine wpList_store_blk rfl 29 _ _ rfl (w.heap.size + 1 + 1) rfl (hc (nodeL a b)) rfl _ _ hZ Hl.out Hs.out (hc_row_one _) ?_
      refine wpList_nil ?_
      refine wpAny_done (by kernel_rfl) ?_ _
      go_wp2
      refine bodyPost_ret (results_cell_row rfl _ _ (w.heap.size + 1 + 1) 29 _ (0, 0) _ rfl (hZ.setRow) Tryd.underlying29 rfl Hs.out) rfl ⟨rfl, ?_⟩
      exact HB.setRow (by omega) _
  · refine wpOp_list rfl ?_
    refine wpList_load_blk rfl 29 _ rfl (w.heap.size + 1) rfl _ (hc b) _ hB Tryd.underlying29 rfl Hsb.out ?_
    refine wpList_nil ?_
    refine wpAny_forced (i := 0) (by kernel_rfl) rfl ?_
    refine wpList_load_blk rfl 29 _ rfl w.heap.size rfl _ (hc a) _ hA Tryd.underlying29 rfl Hsa.out ?_
    refine wpList_nil ?_
    refine wpAny_forced (i := 1) (by kernel_rfl) rfl ?_
    go_wp2_with (go_at_call 65; refine (hash_any a _ HA.out).mono ?_; rintro e w1 ⟨rfl, hb1⟩)
    replace HB := bth HB hb1
    replace hA := hA.later hb1
    replace hB := hB.later hb1
    replace hZ := hZ.later hb1
    refine wpAny_take (i := 2) (v := sv (1 :: a)) rfl (by kernel_rfl) (by kernel_rfl) (by kernel_rfl) (fun _ _ _ h => h) (Or.inl ⟨by rfl, ?_⟩) ?_
    · intro w; go_simp
      try omega
    refine wpAny_forced (i := 4) (by kernel_rfl) rfl ?_
    go_wp2_with (go_at_call 65; refine (hash_any b _ HBb.out).mono ?_; rintro e w2 ⟨rfl, hb2⟩)
    replace HB := bth HB hb2
    replace hZ := hZ.later hb2
    refine wpAny_forced (i := 5) (by kernel_rfl) rfl ?_
    go_wp2_with fail
    refine wpAny_forced (i := 6) (by kernel_rfl) rfl ?_
    go_wp2_with (go_at_call 49; refine (HS.out _ (HG.out.later HB)).mono ?_; rintro e w3 ⟨rfl, hb3⟩)
    replace HB := bth HB hb3
    replace hZ := hZ.later hb3
    refine wpAny_forced (i := 7) (by kernel_rfl) rfl ?_
    refine wpList_store_blk rfl 29 _ _ rfl (w.heap.size + 1 + 1) rfl (hc (nodeL a b)) rfl _ _ hZ Hl.out Hs.out (hc_row_one _) ?_
    refine wpList_nil ?_
    refine wpAny_done (by kernel_rfl) ?_ _
    go_wp2
    refine bodyPost_ret (results_cell_row rfl _ _ (w.heap.size + 1 + 1) 29 _ (0, 0) _ rfl (hZ.setRow) Tryd.underlying29 rfl Hs.out) rfl ⟨rfl, ?_⟩
    exact HB.setRow (by omega) _
set_option maxHeartbeats 2000000 in
theorem rnode_any (a b : List UInt8) (w : World) (ha : a.length = 32) (hb : b.length = 32) :
    Calls Tryd.prog 68 #[hv a, hv b] w fun e w' => e = .returned (hv (nodeL a b)) ∧ Below w.heap.size w w' := by
  have HA := hid ha; have HBb := hid hb; clear ha hb
  have W0 := hid (show ((w.alloc (.cells (hc a) 29)).alloc (.cells (hc b) 29)).heap.size = w.heap.size + 1 + 1 by simp)
  have HB : Below w.heap.size w (((w.alloc (.cells (hc a) 29)).alloc (.cells (hc b) 29)).alloc (.cells (hc zero32) 29)) := (((Below.refl _ w).alloc (Nat.le_refl _) _).alloc (by simp) _).alloc (by simp; omega) _
  have hA : Blk (((w.alloc (.cells (hc a) 29)).alloc (.cells (hc b) 29)).alloc (.cells (hc zero32) 29)) w.heap.size (hc a) 29 := ((Blk.new w _ _).alloc _).alloc _
  have hB : Blk (((w.alloc (.cells (hc a) 29)).alloc (.cells (hc b) 29)).alloc (.cells (hc zero32) 29)) (w.heap.size + 1) (hc b) 29 := (Blk.new' _ _ _ (by simp)).alloc _
  have hZ : Blk (((w.alloc (.cells (hc a) 29)).alloc (.cells (hc b) 29)).alloc (.cells (hc zero32) 29)) (w.heap.size + 1 + 1) (hc zero32) 29 := Blk.new' _ _ _ (by simp)
  have Hsa := hid (show (Tryd.prog.info? 29).map (·.size) = some (hc a).size by rw [hc_size, HA.out]; exact Tryd.sizeHash)
  have Hsb := hid (show (Tryd.prog.info? 29).map (·.size) = some (hc b).size by rw [hc_size, HBb.out]; exact Tryd.sizeHash)
  have Hs := hid (show (Tryd.prog.info? 29).map (·.size) = some (hc (nodeL a b)).size by rw [hc_size, nodeL_len]; exact Tryd.sizeHash)
  have Hl := hid (show (hc (nodeL a b)).size = (hc zero32).size by rw [hc_size, nodeL_len]; rfl)
  have HS : ∀ w0, Calls Tryd.prog 66 #[sv (1 :: (a ++ b))] w0 fun e w' => e = .returned (hv (nodeL a b)) ∧ Below w0.heap.size w0 w' := fun w0 => rsum_any (1 :: (a ++ b)) w0 (by simp [HA.out, HBb.out])
  have HS := hid HS
  have la : a.length ≤ 32 := by rw [HA.out]; exact Nat.le_refl _
  have lb : b.length ≤ 32 := by rw [HBb.out]; exact Nat.le_refl _
  go_enter Tryd.func68, Tryd.ntmps68
  go_wp2_with fail
  refine wp_region_anyw (by kernel_rfl) ?_
  intro w0 he0 hb0
  replace HB := bth HB hb0
  replace hA := hA.heap (w' := w0) he0
  replace hB := hB.heap (w' := w0) he0
  replace hZ := hZ.heap (w' := w0) he0
  show wpAny _ _ _ _ 8 (Array.replicate 8 false) _ _
  refine wpAny_all (rs := [0, 3]) (by kernel_rfl) (by simp) ?_
  intro i hi
  have hi2 : i = 0 ∨ i = 3 := by simpa using hi
  clear hi
  rcases hi2 with rfl | rfl
  · refine wpOp_list rfl ?_
    refine wpList_load_blk rfl 29 _ rfl w.heap.size rfl _ (hc a) _ hA Tryd.underlying29 rfl Hsa.out ?_
    refine wpList_nil ?_
    refine wpAny_all (rs := [1, 3]) (by kernel_rfl) (by simp) ?_
    intro i hi
    have hi2 : i = 1 ∨ i = 3 := by simpa using hi
    clear hi
    rcases hi2 with rfl | rfl
    · refine wpOp_list rfl ?_
      go_wp2_with (go_at_call 93; refine (rhash_any a _ HA.out).mono ?_; rintro e w1 ⟨rfl, hb1⟩)
      replace HB := bth HB hb1
      replace hA := hA.later hb1
      replace hB := hB.later hb1
      replace hZ := hZ.later hb1
      refine wpAny_take (i := 2) (v := sv (1 :: a)) rfl (by kernel_rfl) (by kernel_rfl) (by kernel_rfl) (fun _ _ _ h => h) (Or.inl ⟨by rfl, ?_⟩) ?_
      · intro w; go_simp
        try omega
      refine wpAny_forced (i := 3) (by kernel_rfl) rfl ?_
      refine wpList_load_blk rfl 29 _ rfl (w.heap.size + 1) rfl _ (hc b) _ hB Tryd.underlying29 rfl Hsb.out ?_
      refine wpList_nil ?_
      refine wpAny_forced (i := 4) (by kernel_rfl) rfl ?_
      go_wp2_with (go_at_call 93; refine (rhash_any b _ HBb.out).mono ?_; rintro e w2 ⟨rfl, hb2⟩)
      replace HB := bth HB hb2
      replace hZ := hZ.later hb2
      refine wpAny_forced (i := 5) (by kernel_rfl) rfl ?_
      go_wp2_with fail
      refine wpAny_forced (i := 6) (by kernel_rfl) rfl ?_
      go_wp2_with (go_at_call 66; refine (HS.out _).mono ?_; rintro e w3 ⟨rfl, hb3⟩)
      replace HB := bth HB hb3
      replace hZ := hZ.later hb3
      refine wpAny_forced (i := 7) (by kernel_rfl) rfl ?_
      refine wpList_store_blk rfl 29 _ _ rfl (w.heap.size + 1 + 1) rfl (hc (nodeL a b)) rfl _ _ hZ Hl.out Hs.out (hc_row_one _) ?_
      refine wpList_nil ?_
      refine wpAny_done (by kernel_rfl) ?_ _
      go_wp2
      refine bodyPost_ret (results_cell_row rfl _ _ (w.heap.size + 1 + 1) 29 _ (0, 0) _ rfl (hZ.setRow) Tryd.underlying29 rfl Hs.out) rfl ⟨rfl, ?_⟩
      exact HB.setRow (by omega) _
    · refine wpOp_list rfl ?_
      refine wpList_load_blk rfl 29 _ rfl (w.heap.size + 1) rfl _ (hc b) _ hB Tryd.underlying29 rfl Hsb.out ?_
      refine wpList_nil ?_
      refine wpAny_forced (i := 1) (by kernel_rfl) rfl ?_
      go_wp2_with (go_at_call 93; refine (rhash_any a _ HA.out).mono ?_; rintro e w1 ⟨rfl, hb1⟩)
      replace HB := bth HB hb1
      replace hA := hA.later hb1
      replace hB := hB.later hb1
      replace hZ := hZ.later hb1
      refine wpAny_take (i := 2) (v := sv (1 :: a)) rfl (by kernel_rfl) (by kernel_rfl) (by kernel_rfl) (fun _ _ _ h => h) (Or.inl ⟨by rfl, ?_⟩) ?_
      · intro w; go_simp
        try omega
      refine wpAny_forced (i := 4) (by kernel_rfl) rfl ?_
      go_wp2_with (go_at_call 93; refine (rhash_any b _ HBb.out).mono ?_; rintro e w2 ⟨rfl, hb2⟩)
      replace HB := bth HB hb2
      replace hZ := hZ.later hb2
      refine wpAny_forced (i := 5) (by kernel_rfl) rfl ?_
      go_wp2_with fail
      refine wpAny_forced (i := 6) (by kernel_rfl) rfl ?_
      go_wp2_with (go_at_call 66; refine (HS.out _).mono ?_; rintro e w3 ⟨rfl, hb3⟩)
      replace HB := bth HB hb3
      replace hZ := hZ.later hb3
      refine wpAny_forced (i := 7) (by kernel_rfl) rfl ?_
      refine wpList_store_blk rfl 29 _ _ rfl (w.heap.size + 1 + 1) rfl (hc (nodeL a b)) rfl _ _ hZ Hl.out Hs.out (hc_row_one _) ?_
      refine wpList_nil ?_
      refine wpAny_done (by kernel_rfl) ?_ _
      go_wp2
      refine bodyPost_ret (results_cell_row rfl _ _ (w.heap.size + 1 + 1) 29 _ (0, 0) _ rfl (hZ.setRow) Tryd.underlying29 rfl Hs.out) rfl ⟨rfl, ?_⟩
      exact HB.setRow (by omega) _
  · refine wpOp_list rfl ?_
    refine wpList_load_blk rfl 29 _ rfl (w.heap.size + 1) rfl _ (hc b) _ hB Tryd.underlying29 rfl Hsb.out ?_
    refine wpList_nil ?_
    refine wpAny_forced (i := 0) (by kernel_rfl) rfl ?_
    refine wpList_load_blk rfl 29 _ rfl w.heap.size rfl _ (hc a) _ hA Tryd.underlying29 rfl Hsa.out ?_
    refine wpList_nil ?_
    refine wpAny_forced (i := 1) (by kernel_rfl) rfl ?_
    go_wp2_with (go_at_call 93; refine (rhash_any a _ HA.out).mono ?_; rintro e w1 ⟨rfl, hb1⟩)
    replace HB := bth HB hb1
    replace hA := hA.later hb1
    replace hB := hB.later hb1
    replace hZ := hZ.later hb1
    refine wpAny_take (i := 2) (v := sv (1 :: a)) rfl (by kernel_rfl) (by kernel_rfl) (by kernel_rfl) (fun _ _ _ h => h) (Or.inl ⟨by rfl, ?_⟩) ?_
    · intro w; go_simp
      try omega
    refine wpAny_forced (i := 4) (by kernel_rfl) rfl ?_
    go_wp2_with (go_at_call 93; refine (rhash_any b _ HBb.out).mono ?_; rintro e w2 ⟨rfl, hb2⟩)
    replace HB := bth HB hb2
    replace hZ := hZ.later hb2
    refine wpAny_forced (i := 5) (by kernel_rfl) rfl ?_
    go_wp2_with fail
    refine wpAny_forced (i := 6) (by kernel_rfl) rfl ?_
    go_wp2_with (go_at_call 66; refine (HS.out _).mono ?_; rintro e w3 ⟨rfl, hb3⟩)
    replace HB := bth HB hb3
    replace hZ := hZ.later hb3
    refine wpAny_forced (i := 7) (by kernel_rfl) rfl ?_
    refine wpList_store_blk rfl 29 _ _ rfl (w.heap.size + 1 + 1) rfl (hc (nodeL a b)) rfl _ _ hZ Hl.out Hs.out (hc_row_one _) ?_
    refine wpList_nil ?_
    refine wpAny_done (by kernel_rfl) ?_ _
    go_wp2
    refine bodyPost_ret (results_cell_row rfl _ _ (w.heap.size + 1 + 1) 29 _ (0, 0) _ rfl (hZ.setRow) Tryd.underlying29 rfl Hs.out) rfl ⟨rfl, ?_⟩
    exact HB.setRow (by omega) _
end Go.Proofs.YtbpjlancjdbehaaDoor
