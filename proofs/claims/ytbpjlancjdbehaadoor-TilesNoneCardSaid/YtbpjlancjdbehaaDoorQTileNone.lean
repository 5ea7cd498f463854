/- tiles that are none -/
import Derived.Test.YtbpjlancjdbehaaDoorQTileFn

set_option maxRecDepth 100000
namespace Go.Proofs.YtbpjlancjdbehaaDoor
open Go.RowKit Go.Spec
/-- there are no tiles -/
def NoT (w : World) (p : Value) : Prop := p = .pointer none ∨ ∃ g, p = .pointer (some ⟨g, 0, none⟩) ∧ g < w.heap.size ∧ w.cell? ⟨g, 0, none⟩ = some (.map none)
theorem NoT.later {w w' : World} {p : Value} (h : NoT w p) (hb : Below w.heap.size w w') : NoT w' p := by
  rcases h with h | ⟨g, h1, h2, h3⟩
  · exact .inl h
  · exact .inr ⟨g, h1, Nat.lt_of_lt_of_le h2 hb.size, by rw [hb.cell (p := ⟨g, 0, none⟩) h2]; exact h3⟩
theorem noT_any (p : Value) (w : World) (h : NoT w p) : Calls Tryd.prog 41 #[p] w fun e w' => e = .returned (.bool true) ∧ w = w' := by
  rcases h with rfl | ⟨g, rfl, _, h⟩
  · exact none_nil w
  · exact none_empty g w h
set_option maxHeartbeats 400000 in
theorem noT_size (p : Value) (w : World) (h : NoT w p) : Calls Tryd.prog 23 #[p] w fun e w' => e = .returned (.int .i64 0) ∧ w = w' := by
  have HN := hid (noT_any p w h)
  clear h
  go_enter Tryd.func23, Tryd.ntmps23
  go_wp2_with (go_at_call 41; refine HN.out.mono ?_; rintro e w1 ⟨rfl, rfl⟩)
  go_ret
  exact ⟨rfl, rfl⟩
set_option maxHeartbeats 400000 in
theorem noT_within (p : Value) (n : Int) (w : World) (h : NoT w p) : Calls Tryd.prog 43 #[p, .int .i64 n] w fun e w' => e = .returned (.int .i64 1) ∧ w = w' := by
  have HN := hid (noT_any p w h)
  clear h
  go_enter Tryd.func43, Tryd.ntmps43
  go_wp2_with (go_at_call 41; refine HN.out.mono ?_; rintro e w1 ⟨rfl, rfl⟩)
  go_ret
  exact ⟨rfl, rfl⟩
set_option maxHeartbeats 400000 in
theorem noT_copy (p : Value) (w : World) (h : NoT w p) : Calls Tryd.prog 24 #[p] w fun e w' => e = .returned (.pointer none) ∧ w = w' := by
  have HN := hid (noT_any p w h)
  clear h
  go_enter Tryd.func24, Tryd.ntmps24
  go_wp2_with (go_at_call 41; refine HN.out.mono ?_; rintro e w1 ⟨rfl, rfl⟩)
  go_ret
  exact ⟨rfl, rfl⟩
set_option maxHeartbeats 400000 in
theorem noT_add (p : Value) (x : List UInt8) (w : World) (h : NoT w p) : Calls Tryd.prog 22 #[p, hv x] w fun e w' => e = .returned (.int .i64 1) ∧ Below w.heap.size w w' := by
  have hw1 : Below w.heap.size w (w.alloc (.cells (hc x) 29)) := (Below.refl _ w).alloc (Nat.le_refl _) _
  have HN := hid (noT_any p _ (h.later hw1))
  clear h
  go_enter Tryd.func22, Tryd.ntmps22
  go_wp2_with (go_at_call 41; refine HN.out.mono ?_; rintro e w1 ⟨rfl, rfl⟩)
  go_ret
  exact ⟨rfl, hw1⟩
set_option maxHeartbeats 400000 in
theorem noT_path (p : Value) (i n : Int) (w : World) (h : NoT w p) : Calls Tryd.prog 16 #[p, .int .i64 i, .int .i64 n] w fun e w' => e = .returned (.tuple #[.slice none 0 0, .int .i64 1]) ∧ w = w' := by
  have HN := hid (noT_within p n w h)
  clear h
  go_enter Tryd.func16, Tryd.ntmps16
  go_wp2_with (go_at_call 43; refine HN.out.mono ?_; rintro e w1 ⟨rfl, rfl⟩)
  go_ret2
  exact ⟨rfl, rfl⟩
set_option maxHeartbeats 400000 in
theorem noT_proof (p : Value) (i n : Int) (w : World) (h : NoT w p) : Calls Tryd.prog 18 #[p, .int .i64 i, .int .i64 n] w fun e w' => e = .returned (.tuple #[.slice none 0 0, .int .i64 1]) ∧ w = w' := by
  have HN := hid (noT_within p n w h)
  clear h
  go_enter Tryd.func18, Tryd.ntmps18
  go_wp2_with (go_at_call 43; refine HN.out.mono ?_; rintro e w1 ⟨rfl, rfl⟩)
  go_ret2
  exact ⟨rfl, rfl⟩
theorem sizeHashZ : (Tryd.prog.info? 29).map (·.size) = some (hc zero32).size := by kernel_rfl
set_option maxHeartbeats 1000000 in
theorem noT_node (p : Value) (i n : Int) (w : World) (h : NoT w p) : Calls Tryd.prog 12 #[p, .int .i64 i, .int .i64 n] w fun e w' => e = .returned (.tuple #[hv zero32, .bool false]) ∧ Below w.heap.size w w' := by
  have hw1 : Below w.heap.size w (w.alloc (.cells (hc zero32) 29)) := (Below.refl _ w).alloc (Nat.le_refl _) _
  have hZ : Blk (w.alloc (.cells (hc zero32) 29)) w.heap.size (hc zero32) 29 := Blk.new _ _ _
  have HN := hid (noT_any p _ (h.later hw1))
  clear h
  go_enter Tryd.func12, Tryd.ntmps12
  go_wp2_with (first
    | (go_at_call 41; refine HN.out.mono ?_; rintro e w1 ⟨rfl, rfl⟩)
    | ((with_reducible show wpList _ _ _ ({ dst := _, op := Op.build _ _, type := _, pos := _, after := _, guard := _ } :: _) _ _); refine wpList_build0 rfl 29 rfl (hv zero32) (Tryd.zeroHash _) ?_)
    | ((with_reducible show wpList _ _ _ ({ dst := _, op := Op.store _ _ _, type := _, pos := _, after := _, guard := _ } :: _) _ _); refine wpList_store_blk rfl 29 _ _ rfl w.heap.size rfl (hc zero32) rfl _ _ hZ rfl sizeHashZ (hc_row_one _) ?_))
  refine bodyPost_ret (results_cell2 rfl _ w.heap.size 29 _ (0, 0) _ rfl (hZ.setRow) Tryd.underlying29 rfl sizeHashZ) rfl ⟨rfl, ?_⟩
  exact hw1.setRow (by omega) _
set_option maxHeartbeats 1000000 in
theorem noT_root (p : Value) (n : Int) (w : World) (h : NoT w p) : Calls Tryd.prog 14 #[p, .int .i64 n] w fun e w' => e = .returned (.tuple #[hv zero32, .int .i64 1]) ∧ Below w.heap.size w w' := by
  have hw1 : Below w.heap.size w (w.alloc (.cells (hc zero32) 29)) := (Below.refl _ w).alloc (Nat.le_refl _) _
  have hZ : Blk (w.alloc (.cells (hc zero32) 29)) w.heap.size (hc zero32) 29 := Blk.new _ _ _
  have HN := hid (noT_within p n _ (h.later hw1))
  clear h
  go_enter Tryd.func14, Tryd.ntmps14
  go_wp2_with (first
    | (go_at_call 43; refine HN.out.mono ?_; rintro e w1 ⟨rfl, rfl⟩)
    | ((with_reducible show wpList _ _ _ ({ dst := _, op := Op.build _ _, type := _, pos := _, after := _, guard := _ } :: _) _ _); refine wpList_build0 rfl 29 rfl (hv zero32) (Tryd.zeroHash _) ?_)
    | ((with_reducible show wpList _ _ _ ({ dst := _, op := Op.store _ _ _, type := _, pos := _, after := _, guard := _ } :: _) _ _); refine wpList_store_blk rfl 29 _ _ rfl w.heap.size rfl (hc zero32) rfl _ _ hZ rfl sizeHashZ (hc_row_one _) ?_))
  refine bodyPost_ret (results_cell2 rfl _ w.heap.size 29 _ (0, 0) _ rfl (hZ.setRow) Tryd.underlying29 rfl sizeHashZ) rfl ⟨rfl, ?_⟩
  exact hw1.setRow (by omega) _
end Go.Proofs.YtbpjlancjdbehaaDoor
