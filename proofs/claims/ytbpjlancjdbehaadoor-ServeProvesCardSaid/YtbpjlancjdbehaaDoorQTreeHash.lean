/- codec.Hash, speculumref03.Hash (for seats without the rest of codec); trees.Leaf, trees.Node, trees.Split and the reference's -/
import Derived.Test.YtbpjlancjdbehaaDoorQAnyOp
import Derived.Test.YtbpjlancjdbehaaDoorQShaLaid
import Derived.Test.YtbpjlancjdbehaaDoorQShaRefSum

set_option maxRecDepth 100000
namespace Go.Proofs.YtbpjlancjdbehaaDoor
open Go.RowKit Go.Spec
theorem Tryd.infoU8 : (Tryd.prog.info? 5).map (fun i => (i.zero, i.size, i.bytes)) = some (some (.int .u8 0), 1, 1) := by kernel_rfl
set_option maxHeartbeats 400000 in
theorem hash_any (h : List UInt8) (w : World) (hh : h.length = 32) :
    Calls Tryd.prog 65 #[hv h] w fun e w' => e = .returned (sv h) ∧ Below w.heap.size w w' := by
  have Hh := hid hh
  have hcv : (convert 108 9 (.slice (some ⟨w.heap.size, 0, none⟩) 32 32)).run Tryd.prog (w.alloc (.cells (hc h) 29)) = .ok (sv h) (w.alloc (.cells (hc h) 29)) := by
    have := run_convert_bytes_back (P := Tryd.prog) (w := w.alloc (.cells (hc h) 29)) 108 9 5 ⟨w.heap.size, 0, none⟩ 32 h Tryd.underlying108 Tryd.underlying5 Tryd.underlying9
      (fun j hj => by rw [cell_at_row (heap_alloc_new w _), hc_get h j hj]; rfl)
    rw [hh] at this
    exact this
  clear hh
  go_enter Tryd.func65, Tryd.ntmps65
  go_wp2
  go_ret
  exact ⟨rfl, (Below.refl _ _).alloc (Nat.le_refl _) _⟩
set_option maxHeartbeats 1000000 in
theorem rhash_any (h : List UInt8) (w : World) (hh : h.length = 32) :
    Calls Tryd.prog 93 #[hv h] w fun e w' => e = .returned (sv h) ∧ Below w.heap.size w w' := by
  obtain ⟨i0, hi, hz0, hz1, hz2⟩ := info_parts Tryd.infoU8
  have Hh := hid hh
  clear hh
  go_enter Tryd.func93, Tryd.ntmps93
  go_wp2
  go_loopw [3, 4] (fun v i wr => ∃ k : Nat, k ≤ 32 ∧ i = .int .i64 k ∧ wr.ownsRow (w.heap.size + 1) 5 1 v k ((h.take k).map bcell) ∧ wr.heap[w.heap.size]? = some (.cells (hc h) 29 (0, 0)) ∧ Below w.heap.size w wr)
    (fun _ i _ => 32 - (intOf i).toNat)
  case atStart => exact ⟨0, by omega, rfl, by simpa using World.ownsRow_nil _ _ _ _, heap_alloc_new w _, (Below.refl _ _).alloc (Nat.le_refl _) _⟩
  case round =>
    obtain ⟨k, hk, rfl, hown, hg, hb⟩ := hrel
    have Hg := hid hg; clear hg
    have hsz : w.heap.size < wr.heap.size := (Array.getElem?_eq_some_iff.1 Hg.out).1
    by_cases hlt : k < 32
    · obtain ⟨b, hbk⟩ : ∃ b, h[k]'(by rw [Hh.out]; exact hlt) = b := ⟨_, rfl⟩
      have hcell : wr.cell? ⟨w.heap.size, k, none⟩ = some (.int .u8 (b.toNat : Int)) := by
        rw [cell_of_row wr _ _ _ _ _ Hg.out, hc_get h k (by rw [Hh.out]; exact hlt), hbk]; rfl
      have Htk := hid (show h.take (k + 1) = h.take k ++ [b] by rw [List.take_succ_eq_append_getElem (by rw [Hh.out]; exact hlt), hbk])
      clear hbk
      go_wp2_with (at_builtin; go_must (refine wpList_app rfl _ _ 108 rfl (w.heap.size + 1) 5 i0 (.int .u8 0) 1 1 Tryd.underlying108 hi hz0 hz1 hz2 rfl (by decide) _ k ((h.take k).map bcell) rfl ?c1 ⟨wr.heap.size, 0, none⟩ 1 1 [.int .u8 (b.toNat : Int)] rfl rfl ?c3 ?c4 ?c5 ?c6 ?c7 ?_))
      case c1 => exact hown.alloc _
      case c3 =>
        intro j u hj
        exact row_alloc (w := wr) (cs := #[.int .u8 (b.toNat : Int)]) j u hj
      case c4 => intro u hu; simp at hu; subst hu; rfl
      case c5 => unfold maxLen; omega
      case c6 => omega
      case c7 => simp; omega
      intro v' w5 hown' hgrow hat
      go_wp2
      go_roundw
      case rel =>
        refine ⟨k + 1, by omega, by go_num, ?_, ?_, ?_⟩
        · rw [Htk.out, List.map_append, List.map_take]; exact hown'
        · rw [hgrow.block w.heap.size (by simp; omega) (fun h => by have := (hown.lt _ h.symm).1; omega), Below.heap_alloc _ _ _ hsz]; exact Hg.out
        · exact (hb.alloc hb.size _).grown hgrow (by have := hb.size; simp; omega) (fun q hq => by have := (hown.lt q hq).1; omega)
      case measure => simp [intOf]; omega
    · have hke : k = 32 := by omega
      subst hke
      have hcv := run_string_own (P := Tryd.prog) (w := wr) (l := h.take 32) 108 9 5 Tryd.underlying108 Tryd.underlying5 Tryd.underlying9 hown
      have Htk := hid (show h.take 32 = h by rw [List.take_of_length_le (by rw [Hh.out]; exact Nat.le_refl _)])
      rw [Htk.out] at hcv
      go_wp2
      go_ret
      exact ⟨rfl, hb⟩
def leafL (l : List UInt8) : List UInt8 := sumL (0 :: l)
def nodeL (a b : List UInt8) : List UInt8 := sumL (1 :: (a ++ b))
@[go_sem] theorem leafL_len (l : List UInt8) : (leafL l).length = 32 := sumL_len _
@[go_sem] theorem nodeL_len (a b : List UInt8) : (nodeL a b).length = 32 := sumL_len _
set_option maxHeartbeats 400000 in
theorem leaf_any (l : List UInt8) (w : World) (hl : l.length ≤ 100000000) (hG : ShaG w) :
    Calls Tryd.prog 64 #[sv l] w fun e w' => e = .returned (hv (leafL l)) ∧ Below w.heap.size w w' := by
  have HG := hid hG; clear hG
  have HB0 : Below w.heap.size w (w.alloc (.cells (hc zero32) 29)) := (Below.refl _ w).alloc (Nat.le_refl _) _
  have Hs := hid (show (Tryd.prog.info? 29).map (·.size) = some (hc (leafL l)).size by rw [hc_size, leafL_len]; exact Tryd.sizeHash)
  have Hl := hid (show (hc (leafL l)).size = (hc zero32).size by rw [hc_size, leafL_len]; rfl)
  have HS : ∀ w0, ShaG w0 → Calls Tryd.prog 49 #[sv (0 :: l)] w0 fun e w' => e = .returned (hv (leafL l)) ∧ Below w0.heap.size w0 w' := fun w0 h0 => sum_any (0 :: l) w0 (by simp; omega) h0
  have HS := hid HS
  go_enter Tryd.func64, Tryd.ntmps64
  go_wp2_with (first
    | (go_at_call 49; refine (HS.out _ (HG.out.later HB0)).mono ?_; rintro e w1 ⟨rfl, hb⟩; have hB := (Blk.new w (hc zero32) 29).later hb; have HB := bth HB0 hb; clear hb)
    | ((with_reducible show wpList _ _ _ ({ dst := _, op := Op.store _ _ _, type := _, pos := _, after := _, guard := _ } :: _) _ _); refine wpList_store_blk rfl 29 _ _ rfl w.heap.size rfl (hc (leafL l)) rfl _ _ hB Hl.out Hs.out (hc_row_one _) ?_))
  refine bodyPost_ret (results_cell_row rfl _ _ w.heap.size 29 _ (0, 0) _ rfl (hB.setRow) Tryd.underlying29 rfl Hs.out) rfl ⟨rfl, ?_⟩
  exact HB.setRow (Nat.le_refl _) _
end Go.Proofs.YtbpjlancjdbehaaDoor
