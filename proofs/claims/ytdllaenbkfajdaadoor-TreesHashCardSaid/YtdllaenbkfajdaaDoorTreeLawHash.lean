/- the law TreesHash: the walk -/
import Derived.Test.YtdllaenbkfajdaaDoorTreeGrown
set_option maxRecDepth 100000
namespace Go.Proofs.YtdllaenbkfajdaaDoor
open Go.RowKit Go.Spec
/-- where so many leaves are parted, for every number -/
def splitI (n : Int) : Nat := splitN n.toNat
theorem split_all (n : Int) (w : World) (h0 : -9223372036854775808 ≤ n) (h1 : n ≤ 9223372036854775807) :
    Calls Tryd.prog 17 #[.int .i64 n] w fun e w' => e = .returned (.int .i64 (splitI n : Nat)) ∧ Below w.heap.size w w' := by
  by_cases h : n < 2
  · refine (split_small n w h h0).mono ?_
    rintro e w' ⟨rfl, rfl⟩
    refine ⟨?_, Below.refl _ _⟩
    unfold splitI splitN
    rw [if_pos (by omega)]; rfl
  · obtain ⟨m, rfl⟩ : ∃ m : Nat, n = m := ⟨n.toNat, by omega⟩
    refine (split_big m w (by omega) (by omega)).mono ?_
    rintro e w' ⟨rfl, rfl⟩
    exact ⟨by unfold splitI; simp, Below.refl _ _⟩
theorem rsplit_all (n : Int) (w : World) (h0 : -9223372036854775808 ≤ n) (h1 : n ≤ 9223372036854775807) :
    Calls Tryd.prog 21 #[.int .i64 n] w fun e w' => e = .returned (.int .i64 (splitI n : Nat)) ∧ Below w.heap.size w w' := by
  by_cases h : n < 2
  · refine (rsplit_small n w h h0).mono ?_
    rintro e w' ⟨rfl, rfl⟩
    refine ⟨?_, Below.refl _ _⟩
    unfold splitI splitN
    rw [if_pos (by omega)]; rfl
  · obtain ⟨m, rfl⟩ : ∃ m : Nat, n = m := ⟨n.toNat, by omega⟩
    refine (rsplit_big m w (by omega) (by omega)).mono ?_
    rintro e w' ⟨rfl, rfl⟩
    exact ⟨by unfold splitI; simp, Below.refl _ _⟩
set_option maxHeartbeats 4000000 in
theorem treesHash_law (l a b : List UInt8) (n : Int) (w : World) (hl : l.length ≤ 9223372036854775807) (ha : a.length = 32) (hb : b.length = 32) (hn : -9223372036854775808 ≤ n ∧ n ≤ 9223372036854775807) (hG : ShaG w) :
    Calls Tryd.prog 5 #[sv l, hv (a ++ b), .int .i64 n] w fun e w' => e = .returned (.bool true) ∧ Below w.heap.size w w' := by
  have HG := hid hG; clear hG
  have HB : Below w.heap.size w (w.alloc (.cells (hc (a ++ b)) 32)) := (Below.refl _ w).alloc (Nat.le_refl _) _
  by_cases h1 : 1000 < l.length
  · have hd : decide ((1000 : Int) < (l.length : Int)) = true := by simp; omega
    clear h1
    go_enter Tryd.func5, Tryd.ntmps5
    go_wp2_with (go_at_call 12; refine (grown_any _ (HG.out.later HB)).mono ?_; rintro e w1 ⟨rfl, hb1⟩)
    go_ret
    exact ⟨rfl, bth HB hb1⟩
  · have hd : decide ((1000 : Int) < (l.length : Int)) = false := by simp; omega
    have hl2 : l.length ≤ 1000 := by omega
    go_enter Tryd.func5, Tryd.ntmps5
    go_wp2_with fail
    have hBk : Blk (w.alloc (.cells (hc (a ++ b)) 32)) w.heap.size (hc (a ++ b)) 32 := Blk.new _ _ _
    have Hc0 := hid (fun w' h => (hBk.later (w' := w') h).part 0 a (hc_part1 a b))
    have Hc1 := hid (fun w' h => (hBk.later (w' := w') h).part 32 b (hc_part2 a b ha))
    generalize hw0 : w.alloc (.cells (hc (a ++ b)) 32) = w0 at *
    have HG0 := hid (HG.out.later HB)
    have L1 := hid (fun x : Later w0 => leaf_any l (lat x) (by omega) (HG0.out.later (lat_below x)))
    have L2 := hid (fun x : Later w0 => rleaf_any l (lat x) (by omega))
    have N1 := hid (fun x : Later w0 => node_any a b (lat x) ha hb (HG0.out.later (lat_below x)))
    have N2 := hid (fun x : Later w0 => rnode_any a b (lat x) ha hb)
    have S1 := hid (fun x : Later w0 => split_all n (lat x) hn.1 hn.2)
    have S2 := hid (fun x : Later w0 => rsplit_all n (lat x) hn.1 hn.2)
    have S3 := hid (fun x : Later w0 => split_all l.length (lat x) (by omega) (by omega))
    have S4 := hid (fun x : Later w0 => rsplit_all l.length (lat x) (by omega) (by omega))
    have Gr := hid (fun x : Later w0 => grown_any (lat x) (HG0.out.later (lat_below x)))
    have HA := hid (show (Tryd.prog.info? 25).map (·.size) = some a.length by rw [ha]; exact Tryd.sizeHash)
    have HBs := hid (show (Tryd.prog.info? 25).map (·.size) = some b.length by rw [hb]; exact Tryd.sizeHash)
    have hx1 := leafL_len l
    have hx2 := nodeL_len a b
    have hs5 := Tryd.sizeU8
    have hge := Tryd.guardHash3
    have hq1 : (leafL l == leafL l) = true := by simp
    have hq2 : (nodeL a b == nodeL a b) = true := by simp
    have hlt : w.heap.size < w0.heap.size := by rw [← hw0]; simp
    clear h1 hBk hl2 ha hb
    generalize leafL l = X1 at *
    generalize nodeL a b = X2 at *
    generalize splitI n = X3 at *
    generalize splitI (l.length : Int) = X4 at *
    refine wp_region_later (by kernel_rfl) (by kernel_rfl) ?_
    repeat (first
      | (refine wpQuiet_load_hcG rfl 25 _ rfl ⟨w.heap.size, 0, none⟩ rfl a _ (by rintro _ ⟨q, rfl⟩; exact Hc0.out _ (lat_below q)) Tryd.underlying25 rfl HA.out ?_; simp only [Act.put, List.setIfInBounds_toArray, List.set_cons_succ, List.set_cons_zero])
      | (refine wpQuiet_load_hcG rfl 25 _ rfl ⟨w.heap.size, 32, none⟩ rfl b _ (by rintro _ ⟨q, rfl⟩; exact Hc1.out _ (lat_below q)) Tryd.underlying25 rfl HBs.out ?_; simp only [Act.put, List.setIfInBounds_toArray, List.set_cons_succ, List.set_cons_zero])
      | go_big_quiet_step ((first | (go_at_call 18; with_reducible exact calls_later (L1.out _)) | (go_at_call 19; with_reducible exact calls_later (L2.out _)) | (go_at_call 16; with_reducible exact calls_later (N1.out _)) | (go_at_call 20; with_reducible exact calls_later (N2.out _)) | (go_at_call 17; with_reducible exact calls_later (S1.out _)) | (go_at_call 21; with_reducible exact calls_later (S2.out _)) | (go_at_call 17; with_reducible exact calls_later (S3.out _)) | (go_at_call 21; with_reducible exact calls_later (S4.out _)) | (go_at_call 12; with_reducible exact calls_later (Gr.out _)))))
    refine wpQuiet_nil ?_
    rintro _ ⟨q1, rfl⟩
    have hb1 := lat_below q1
    generalize lat q1 = w1 at *
    go_wp2
    go_ret
    exact ⟨rfl, bth HB hb1⟩
end Go.Proofs.YtdllaenbkfajdaaDoor
