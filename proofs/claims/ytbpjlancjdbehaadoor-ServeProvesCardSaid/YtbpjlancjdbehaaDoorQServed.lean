/- speculumlaw21.served: the chapter's example (printed by wip/servedgen.py) -/
import Derived.Test.YtbpjlancjdbehaaDoorQSrvLog

set_option maxRecDepth 100000
namespace Go.Proofs.YtbpjlancjdbehaaDoor
open Go.RowKit Go.Spec
def srcEx : Src := logS [[97], [98], [99]] 2
theorem srcEx_small : SrcSmall srcEx := ⟨by decide, by decide, by decide, by decide, by decide⟩
theorem ex_facts : (ansRp srcEx ⟨4, 2, 0, 2, 2⟩).id = 4 ∧ (ansRp srcEx ⟨4, 2, 0, 2, 2⟩).kind = 3 ∧ (ansRp srcEx ⟨4, 2, 0, 2, 2⟩).entries = [[97], [98]] ∧ (ansRp srcEx ⟨4, 2, 0, 2, 2⟩).proof.length = 0 ∧ (ansRp srcEx ⟨0, 2, 0, 2, 3⟩).code = 82 ∧ (ansRp srcEx ⟨0, 2, 0, 17, 2⟩).code = 2 ∧ (ansRp srcEx ⟨0, 3, 2, 0, 2⟩).code = 82 ∧ (ansRp srcEx ⟨0, 4, 1, 0, 2⟩).kind = 4 ∧ (ansRp srcEx ⟨0, 4, 1, 0, 2⟩).proof.length = 1 ∧ srvB srcEx [63] = [82, 0, 1, 10] ∧ sizeS srcEx = 2 := by decide +kernel
theorem built3 (w : World) : (Instr.buildSlice 56 3 #[(0, sv [97]), (1, sv [98]), (2, sv [99])]).run Tryd.prog w = .ok (.slice (some ⟨w.heap.size, 0, none⟩) 3 3) (w.alloc (.cells #[sv [97], sv [98], sv [99]] 9)) := by kernel_rfl
theorem strs3 (w : World) : StrsAt (w.alloc (.cells #[sv [97], sv [98], sv [99]] 9)) (.slice (some ⟨w.heap.size, 0, none⟩) 3 3) [[97], [98], [99]] := by
  refine ⟨_, _, rfl, Nat.le_refl _, ?_, fun i cs hi => ⟨w.heap.size, 0, rfl, (Blk.new w _ _).lt, fun j u hj => ?_⟩⟩
  · intro cs hcs
    simp [scells] at hcs
    rcases hcs with rfl | rfl | rfl <;> rfl
  · have hb := fun k u (hk : (#[sv [97], sv [98], sv [99]] : Array Value).toList[k]? = some u) => (Blk.new w #[sv [97], sv [98], sv [99]] 9).cells k u hk
    have hb2 : ∀ k u, (#[sv [97], sv [98], sv [99]] : Array Value).toList[k]? = some u → (w.alloc (.cells #[sv [97], sv [98], sv [99]] 9)).cell? ⟨w.heap.size, k, none⟩ = some u := fun k u hk => by
      have := hb k u hk
      rw [Addr.add_lit] at this
      simpa using this
    match i, hi with
    | 0, hi =>
      simp [scells] at hi; subst hi
      match j, hj with
      | 0, hj => simp at hj; subst hj; exact hb2 0 _ rfl
      | j + 1, hj => simp at hj
    | 1, hi =>
      simp [scells] at hi; subst hi
      match j, hj with
      | 0, hj => simp at hj; subst hj; exact hb2 1 _ rfl
      | j + 1, hj => simp at hj
    | 2, hi =>
      simp [scells] at hi; subst hi
      match j, hj with
      | 0, hj => simp at hj; subst hj; exact hb2 2 _ rfl
      | j + 1, hj => simp at hj
    | i + 3, hi => simp [scells] at hi
set_option maxHeartbeats 16000000 in
theorem served_any (w : World) (hG : ShaG w) :
    Calls Tryd.prog 29 #[] w fun e w' => e = .returned (.bool true) ∧ Below w.heap.size w w' := by
  obtain ⟨f1, f2, f3, f4, f5, f6, f7, f8, f9, f10, f11⟩ := ex_facts
  have HG := hid hG; clear hG
  have B3 := hid built3
  have LG := hid (fun v w' h0 h1 => log_any v [[97], [98], [99]] 2 w' h0 (by decide) (by decide) h1)
  have SZ := hid (fun ve vl vh vf hd w' h0 => ssize_any srcEx ve vl vh vf hd [] w' h0 srcEx_small)
  have SV := hid (fun ve vl vh vf hd w' h0 h1 => serve_any srcEx ve vl vh vf hd [] [63] w' h0 srcEx_small (by decide) h1)
  have A0 := hid (fun ve vl vh vf hd w' h0 h1 => answer_any srcEx ve vl vh vf hd [] ⟨4, 2, 0, 2, 2⟩ w' h0 srcEx_small ⟨by unfold inI; decide, by unfold inI; decide, by unfold inI; decide, by unfold inI; decide, by unfold inI; decide⟩ h1)
  have A1 := hid (fun ve vl vh vf hd w' h0 h1 => answer_any srcEx ve vl vh vf hd [] ⟨0, 2, 0, 2, 3⟩ w' h0 srcEx_small ⟨by unfold inI; decide, by unfold inI; decide, by unfold inI; decide, by unfold inI; decide, by unfold inI; decide⟩ h1)
  have A2 := hid (fun ve vl vh vf hd w' h0 h1 => answer_any srcEx ve vl vh vf hd [] ⟨0, 2, 0, 17, 2⟩ w' h0 srcEx_small ⟨by unfold inI; decide, by unfold inI; decide, by unfold inI; decide, by unfold inI; decide, by unfold inI; decide⟩ h1)
  have A3 := hid (fun ve vl vh vf hd w' h0 h1 => answer_any srcEx ve vl vh vf hd [] ⟨0, 3, 2, 0, 2⟩ w' h0 srcEx_small ⟨by unfold inI; decide, by unfold inI; decide, by unfold inI; decide, by unfold inI; decide, by unfold inI; decide⟩ h1)
  have A4 := hid (fun ve vl vh vf hd w' h0 h1 => answer_any srcEx ve vl vh vf hd [] ⟨0, 4, 1, 0, 2⟩ w' h0 srcEx_small ⟨by unfold inI; decide, by unfold inI; decide, by unfold inI; decide, by unfold inI; decide, by unfold inI; decide⟩ h1)
  rw [f11] at SZ
  rw [f10] at SV
  clear f10 f11
  generalize ansRp srcEx ⟨4, 2, 0, 2, 2⟩ = x0 at *
  generalize ansRp srcEx ⟨0, 2, 0, 2, 3⟩ = x1 at *
  generalize ansRp srcEx ⟨0, 2, 0, 17, 2⟩ = x2 at *
  generalize ansRp srcEx ⟨0, 3, 2, 0, 2⟩ = x3 at *
  generalize ansRp srcEx ⟨0, 4, 1, 0, 2⟩ = x4 at *
  have F := hid (And.intro f1 (And.intro f2 (And.intro f3 (And.intro f4 (And.intro f5 (And.intro f6 (And.intro f7 (And.intro f8 f9))))))))
  clear f1 f2 f3 f4 f5 f6 f7 f8 f9
  go_enter Tryd.func29, Tryd.ntmps29
  go_upto_region 2 with (first
    | ((with_reducible show wpList _ _ _ ({ dst := _, op := Op.buildSlice 56 _ _, type := _, pos := _, after := _, guard := _ } :: _) _ _); refine wpList_buildSliceR rfl 56 3 [(0, .const (sv [97])), (1, .const (sv [98])), (2, .const (sv [99]))] rfl _ _ (B3.out w) ?_)
    | (go_at_call 37; refine (LG.out _ _ (strs3 w) (HG.out.later ((Below.refl _ w).alloc (Nat.le_refl _) _))).mono ?_; rintro e w1 ⟨ve, vl, vh, vf, rfl, hin, hb1⟩)
    | ((with_reducible show wpList _ _ _ ({ dst := _, op := Op.store _ _ _, type := _, pos := _, after := _, guard := _ } :: _) _ _); refine wpList_store_newA rfl 59 _ _ rfl rfl (srcC ve vl vh vf) rfl _ 59 rfl Tryd.sizeSrc (srcC_one _ _ _ _ (SlAt.oneS hin.entries) (SlAt.oneS hin.leaves) (SlAt.oneS hin.head.at_) (SlAt.oneS hin.fork.at_)) ?_))
  have hb01 := bth ((Below.refl _ w).alloc (Nat.le_refl _) (.cells #[sv [97], sv [98], sv [99]] 9)) hb1
  refine wp_world (fun W => Blk W w1.heap.size (srcC ve vl vh vf) 59 ∧ SrcIn W srcEx ve vl vh vf [logD 2] [] ∧ Below w.heap.size w W) ⟨Blk.new _ _ _, hin.below ((Below.refl _ w1).alloc (Nat.le_refl _) _), hb01.alloc hb01.size _⟩ ?_
  rintro y0 ⟨hS, hI, hB⟩
  have HS0 := hid hS; have HI0 := hid hI; have HB0 := hid hB
  clear hS hI hB hin hb1 hb01 LG B3
  generalize w1.heap.size = g1 at *
  go_upto_region 3 with (first
    | ((with_reducible show wpList _ _ _ ({ dst := _, op := Op.load 59 _, type := _, pos := _, after := _, guard := _ } :: _) _ _); refine wpList_load_blk rfl 59 _ rfl g1 rfl 59 (srcC ve vl vh vf) _ HS0.out Tryd.underlying59 rfl Tryd.sizeSrc ?_)
    | ((with_reducible show wpList _ _ _ ({ dst := _, op := Op.build 61 _, type := _, pos := _, after := _, guard := _ } :: _) _ _); refine wpList_buildP rfl 61 [(0, .const (.int .i64 4)), (1, .const (.int .i64 2)), (3, .const (.int .i64 2)), (4, .const (.int .i64 2))] rfl (Rq.v ⟨4, 2, 0, 2, 2⟩) (fun w => by kernel_rfl) ?_)
    | (go_at_call 33; refine (A0.out ve vl vh vf _ _ HI0.out (HG.out.later HB0.out)).mono ?_; rintro e v0 ⟨a0, b0, c0, d0, rfl, hin0, hb0⟩)
    | ((with_reducible show wpList _ _ _ ({ dst := _, op := Op.store _ _ _, type := _, pos := _, after := _, guard := _ } :: _) _ _); refine wpList_store_newA rfl 68 _ _ rfl rfl (rpC x0 a0 b0 c0) rfl _ 68 rfl Tryd.sizeRpS hin0.ones ?_))
  refine wp_world (fun W => Blk W g1 (srcC ve vl vh vf) 59 ∧ SrcIn W srcEx ve vl vh vf [logD 2] [] ∧ Below w.heap.size w W ∧ RpIn W x0 a0 b0 c0 d0 ∧ Blk W v0.heap.size (rpC x0 a0 b0 c0) 68) ⟨(HS0.out.later hb0).alloc _, (HI0.out.below hb0).below ((Below.refl _ v0).alloc (Nat.le_refl _) _), (bth HB0.out hb0).alloc (bth HB0.out hb0).size _, hin0.below ((Below.refl _ v0).alloc (Nat.le_refl _) _), Blk.new _ _ _⟩ ?_
  rintro y1 ⟨hS, hI, hB, hN, hR⟩
  have HS1 := hid hS; have HI1 := hid hI; have HB1 := hid hB; have N0 := hid hN
  clear hS hI hB hN hin0 hb0 A0 HS0 HI0 HB0
  have R0 := hid hR
  clear hR
  generalize v0.heap.size = q0 at *
  go_upto_region 4 with (first
    | ((with_reducible show wpList _ _ _ ({ dst := _, op := Op.load 59 _, type := _, pos := _, after := _, guard := _ } :: _) _ _); refine wpList_load_blk rfl 59 _ rfl g1 rfl 59 (srcC ve vl vh vf) _ HS1.out Tryd.underlying59 rfl Tryd.sizeSrc ?_)
    | ((with_reducible show wpList _ _ _ ({ dst := _, op := Op.build 61 _, type := _, pos := _, after := _, guard := _ } :: _) _ _); refine wpList_buildP rfl 61 [(1, .const (.int .i64 2)), (3, .const (.int .i64 2)), (4, .const (.int .i64 3))] rfl (Rq.v ⟨0, 2, 0, 2, 3⟩) (fun w => by kernel_rfl) ?_)
    | (go_at_call 33; refine (A1.out ve vl vh vf _ _ HI1.out (HG.out.later HB1.out)).mono ?_; rintro e v1 ⟨a1, b1, c1, d1, rfl, hin1, hb1⟩)
    | ((with_reducible show wpList _ _ _ ({ dst := _, op := Op.store _ _ _, type := _, pos := _, after := _, guard := _ } :: _) _ _); refine wpList_store_newA rfl 68 _ _ rfl rfl (rpC x1 a1 b1 c1) rfl _ 68 rfl Tryd.sizeRpS hin1.ones ?_))
  refine wp_world (fun W => Blk W g1 (srcC ve vl vh vf) 59 ∧ SrcIn W srcEx ve vl vh vf [logD 2] [] ∧ Below w.heap.size w W ∧ RpIn W x1 a1 b1 c1 d1 ∧ Blk W v1.heap.size (rpC x1 a1 b1 c1) 68 ∧ Blk W q0 (rpC x0 a0 b0 c0) 68 ∧ RpIn W x0 a0 b0 c0 d0) ⟨(HS1.out.later hb1).alloc _, (HI1.out.below hb1).below ((Below.refl _ v1).alloc (Nat.le_refl _) _), (bth HB1.out hb1).alloc (bth HB1.out hb1).size _, hin1.below ((Below.refl _ v1).alloc (Nat.le_refl _) _), Blk.new _ _ _, (R0.out.later hb1).alloc _, (N0.out.below hb1).below ((Below.refl _ v1).alloc (Nat.le_refl _) _)⟩ ?_
  rintro y2 ⟨hS, hI, hB, hN, hR, hR0, hN0⟩
  have HS2 := hid hS; have HI2 := hid hI; have HB2 := hid hB; have N1 := hid hN
  clear hS hI hB hN hin1 hb1 A1 HS1 HI1 HB1 R0 N0
  have R1 := hid hR; have R0 := hid hR0; have N0 := hid hN0
  clear hR hR0 hN0
  generalize v1.heap.size = q1 at *
  go_upto_region 5 with (first
    | ((with_reducible show wpList _ _ _ ({ dst := _, op := Op.load 59 _, type := _, pos := _, after := _, guard := _ } :: _) _ _); refine wpList_load_blk rfl 59 _ rfl g1 rfl 59 (srcC ve vl vh vf) _ HS2.out Tryd.underlying59 rfl Tryd.sizeSrc ?_)
    | ((with_reducible show wpList _ _ _ ({ dst := _, op := Op.build 61 _, type := _, pos := _, after := _, guard := _ } :: _) _ _); refine wpList_buildP rfl 61 [(1, .const (.int .i64 2)), (3, .const (.int .i64 17)), (4, .const (.int .i64 2))] rfl (Rq.v ⟨0, 2, 0, 17, 2⟩) (fun w => by kernel_rfl) ?_)
    | (go_at_call 33; refine (A2.out ve vl vh vf _ _ HI2.out (HG.out.later HB2.out)).mono ?_; rintro e v2 ⟨a2, b2, c2, d2, rfl, hin2, hb2⟩)
    | ((with_reducible show wpList _ _ _ ({ dst := _, op := Op.store _ _ _, type := _, pos := _, after := _, guard := _ } :: _) _ _); refine wpList_store_newA rfl 68 _ _ rfl rfl (rpC x2 a2 b2 c2) rfl _ 68 rfl Tryd.sizeRpS hin2.ones ?_))
  refine wp_world (fun W => Blk W g1 (srcC ve vl vh vf) 59 ∧ SrcIn W srcEx ve vl vh vf [logD 2] [] ∧ Below w.heap.size w W ∧ RpIn W x2 a2 b2 c2 d2 ∧ Blk W v2.heap.size (rpC x2 a2 b2 c2) 68 ∧ Blk W q0 (rpC x0 a0 b0 c0) 68 ∧ Blk W q1 (rpC x1 a1 b1 c1) 68 ∧ RpIn W x0 a0 b0 c0 d0) ⟨(HS2.out.later hb2).alloc _, (HI2.out.below hb2).below ((Below.refl _ v2).alloc (Nat.le_refl _) _), (bth HB2.out hb2).alloc (bth HB2.out hb2).size _, hin2.below ((Below.refl _ v2).alloc (Nat.le_refl _) _), Blk.new _ _ _, (R0.out.later hb2).alloc _, (R1.out.later hb2).alloc _, (N0.out.below hb2).below ((Below.refl _ v2).alloc (Nat.le_refl _) _)⟩ ?_
  rintro y3 ⟨hS, hI, hB, hN, hR, hR0, hR1, hN0⟩
  have HS3 := hid hS; have HI3 := hid hI; have HB3 := hid hB; have N2 := hid hN
  clear hS hI hB hN hin2 hb2 A2 HS2 HI2 HB2 R0 R1 N0
  have R2 := hid hR; have R0 := hid hR0; have R1 := hid hR1; have N0 := hid hN0
  clear hR hR0 hR1 hN0
  generalize v2.heap.size = q2 at *
  go_upto_region 6 with (first
    | ((with_reducible show wpList _ _ _ ({ dst := _, op := Op.load 59 _, type := _, pos := _, after := _, guard := _ } :: _) _ _); refine wpList_load_blk rfl 59 _ rfl g1 rfl 59 (srcC ve vl vh vf) _ HS3.out Tryd.underlying59 rfl Tryd.sizeSrc ?_)
    | ((with_reducible show wpList _ _ _ ({ dst := _, op := Op.build 61 _, type := _, pos := _, after := _, guard := _ } :: _) _ _); refine wpList_buildP rfl 61 [(1, .const (.int .i64 3)), (2, .const (.int .i64 2)), (4, .const (.int .i64 2))] rfl (Rq.v ⟨0, 3, 2, 0, 2⟩) (fun w => by kernel_rfl) ?_)
    | (go_at_call 33; refine (A3.out ve vl vh vf _ _ HI3.out (HG.out.later HB3.out)).mono ?_; rintro e v3 ⟨a3, b3, c3, d3, rfl, hin3, hb3⟩)
    | ((with_reducible show wpList _ _ _ ({ dst := _, op := Op.store _ _ _, type := _, pos := _, after := _, guard := _ } :: _) _ _); refine wpList_store_newA rfl 68 _ _ rfl rfl (rpC x3 a3 b3 c3) rfl _ 68 rfl Tryd.sizeRpS hin3.ones ?_))
  refine wp_world (fun W => Blk W g1 (srcC ve vl vh vf) 59 ∧ SrcIn W srcEx ve vl vh vf [logD 2] [] ∧ Below w.heap.size w W ∧ RpIn W x3 a3 b3 c3 d3 ∧ Blk W v3.heap.size (rpC x3 a3 b3 c3) 68 ∧ Blk W q0 (rpC x0 a0 b0 c0) 68 ∧ Blk W q1 (rpC x1 a1 b1 c1) 68 ∧ Blk W q2 (rpC x2 a2 b2 c2) 68 ∧ RpIn W x0 a0 b0 c0 d0) ⟨(HS3.out.later hb3).alloc _, (HI3.out.below hb3).below ((Below.refl _ v3).alloc (Nat.le_refl _) _), (bth HB3.out hb3).alloc (bth HB3.out hb3).size _, hin3.below ((Below.refl _ v3).alloc (Nat.le_refl _) _), Blk.new _ _ _, (R0.out.later hb3).alloc _, (R1.out.later hb3).alloc _, (R2.out.later hb3).alloc _, (N0.out.below hb3).below ((Below.refl _ v3).alloc (Nat.le_refl _) _)⟩ ?_
  rintro y4 ⟨hS, hI, hB, hN, hR, hR0, hR1, hR2, hN0⟩
  have HS4 := hid hS; have HI4 := hid hI; have HB4 := hid hB; have N3 := hid hN
  clear hS hI hB hN hin3 hb3 A3 HS3 HI3 HB3 R0 R1 R2 N0
  have R3 := hid hR; have R0 := hid hR0; have R1 := hid hR1; have R2 := hid hR2; have N0 := hid hN0
  clear hR hR0 hR1 hR2 hN0
  generalize v3.heap.size = q3 at *
  go_upto_region 7 with (first
    | ((with_reducible show wpList _ _ _ ({ dst := _, op := Op.load 59 _, type := _, pos := _, after := _, guard := _ } :: _) _ _); refine wpList_load_blk rfl 59 _ rfl g1 rfl 59 (srcC ve vl vh vf) _ HS4.out Tryd.underlying59 rfl Tryd.sizeSrc ?_)
    | ((with_reducible show wpList _ _ _ ({ dst := _, op := Op.build 61 _, type := _, pos := _, after := _, guard := _ } :: _) _ _); refine wpList_buildP rfl 61 [(1, .const (.int .i64 4)), (2, .const (.int .i64 1)), (4, .const (.int .i64 2))] rfl (Rq.v ⟨0, 4, 1, 0, 2⟩) (fun w => by kernel_rfl) ?_)
    | (go_at_call 33; refine (A4.out ve vl vh vf _ _ HI4.out (HG.out.later HB4.out)).mono ?_; rintro e v4 ⟨a4, b4, c4, d4, rfl, hin4, hb4⟩)
    | ((with_reducible show wpList _ _ _ ({ dst := _, op := Op.store _ _ _, type := _, pos := _, after := _, guard := _ } :: _) _ _); refine wpList_store_newA rfl 68 _ _ rfl rfl (rpC x4 a4 b4 c4) rfl _ 68 rfl Tryd.sizeRpS hin4.ones ?_))
  refine wp_world (fun W => Blk W g1 (srcC ve vl vh vf) 59 ∧ SrcIn W srcEx ve vl vh vf [logD 2] [] ∧ Below w.heap.size w W ∧ RpIn W x4 a4 b4 c4 d4 ∧ Blk W v4.heap.size (rpC x4 a4 b4 c4) 68 ∧ Blk W q0 (rpC x0 a0 b0 c0) 68 ∧ Blk W q1 (rpC x1 a1 b1 c1) 68 ∧ Blk W q2 (rpC x2 a2 b2 c2) 68 ∧ Blk W q3 (rpC x3 a3 b3 c3) 68 ∧ RpIn W x0 a0 b0 c0 d0) ⟨(HS4.out.later hb4).alloc _, (HI4.out.below hb4).below ((Below.refl _ v4).alloc (Nat.le_refl _) _), (bth HB4.out hb4).alloc (bth HB4.out hb4).size _, hin4.below ((Below.refl _ v4).alloc (Nat.le_refl _) _), Blk.new _ _ _, (R0.out.later hb4).alloc _, (R1.out.later hb4).alloc _, (R2.out.later hb4).alloc _, (R3.out.later hb4).alloc _, (N0.out.below hb4).below ((Below.refl _ v4).alloc (Nat.le_refl _) _)⟩ ?_
  rintro y5 ⟨hS, hI, hB, hN, hR, hR0, hR1, hR2, hR3, hN0⟩
  have HS5 := hid hS; have HI5 := hid hI; have HB5 := hid hB; have N4 := hid hN
  clear hS hI hB hN hin4 hb4 A4 HS4 HI4 HB4 R0 R1 R2 R3 N0
  have R4 := hid hR; have R0 := hid hR0; have R1 := hid hR1; have R2 := hid hR2; have R3 := hid hR3; have N0 := hid hN0
  clear hR hR0 hR1 hR2 hR3 hN0
  generalize v4.heap.size = q4 at *
  go_upto_region 8 with (first
    | ((with_reducible show wpList _ _ _ ({ dst := _, op := Op.load 59 _, type := _, pos := _, after := _, guard := _ } :: _) _ _); refine wpList_load_blk rfl 59 _ rfl g1 rfl 59 (srcC ve vl vh vf) _ HS5.out Tryd.underlying59 rfl Tryd.sizeSrc ?_)
    | (go_at_call 35; refine (SV.out ve vl vh vf _ _ HI5.out (HG.out.later HB5.out)).mono ?_; rintro e w8 ⟨rfl, hb8⟩))
  have SZ8 := hid (fun w' (hb : Below w8.heap.size w8 w') => SZ.out ve vl vh vf _ w' (HI5.out.below (bth hb8 hb)))
  have HS8 := hid (HS5.out.later hb8)
  have HB8 := hid (bth HB5.out hb8)
  have R0 := hid (R0.out.later hb8)
  have R1 := hid (R1.out.later hb8)
  have R2 := hid (R2.out.later hb8)
  have R3 := hid (R3.out.later hb8)
  have R4 := hid (R4.out.later hb8)
  have N0 := hid (N0.out.below hb8); have N4 := hid (N4.out.below hb8)
  clear SV SZ HI5 HS5 HB5 hb8
  obtain ⟨F1, F2, F3, F4, F5, F6, F7, F8, F9⟩ := F.out
  obtain ⟨ea, eac, rfl, _⟩ := N0.out.entries.form
  obtain ⟨pa, pac, rfl, _⟩ := N0.out.proof.formH
  obtain ⟨pa4, pac4, rfl, _⟩ := N4.out.proof.formH
  obtain ⟨eb, eo, rfl, heb, hec⟩ := N0.out.entries.at (i := 1) (by rw [F3]; decide)
  have he1 : x0.entries[1]'(by rw [F3]; decide) = [98] := by simp only [F3]; rfl
  rw [he1] at hec
  have hEl : x0.entries.length = 2 := by rw [F3]; rfl
  rw [hEl] at R0
  rw [F4] at R0
  rw [F9] at R4
  have K0 := hid (fun w' (hb : Below w8.heap.size w8 w') => And.intro (Blk.cell (R0.out.later hb)) (And.intro (Blk.cell (R1.out.later hb)) (And.intro (Blk.cell (R2.out.later hb)) (And.intro (Blk.cell (R3.out.later hb)) (And.intro (Blk.cell (R4.out.later hb)) ((hb.cell (p := ⟨eb, eo + 1, none⟩) heb).trans hec))))))
  clear he1 hEl N0 N4 hec heb
  go_wp2_with (first
    | ((with_reducible show wpList _ _ _ ({ dst := _, op := Op.load 59 _, type := _, pos := _, after := _, guard := _ } :: _) _ _); refine wpList_load_blk rfl 59 _ rfl g1 rfl 59 (srcC ve vl vh vf) _ HS8.out Tryd.underlying59 rfl Tryd.sizeSrc ?_)
    | (go_at_call 30; refine (SZ8.out _ (Below.refl _ _)).mono ?_; rintro e w9 ⟨rfl, hb9⟩;
        (obtain ⟨k0, k1, k2, k3, k4, k5⟩ := K0.out w9 hb9);
        (have r00 : w9.cell? ⟨q0, 0, none⟩ = some (.int .i64 4) := by rw [k0 0]; simp [rpC, F1]);
        (have r01 : w9.cell? ⟨q0, 1, none⟩ = some (.int .i64 3) := by rw [k0 1]; simp [rpC, F2]);
        (have r04 : w9.cell? ⟨q0, 4, none⟩ = some (.slice (some ⟨eb, eo, none⟩) 2 eac) := by rw [k0 4]; simp [rpC]);
        (have r05 : w9.cell? ⟨q0, 5, none⟩ = some (.slice pa 0 pac) := by rw [k0 5]; simp [rpC]);
        (have r12 : w9.cell? ⟨q1, 2, none⟩ = some (.int .i64 82) := by rw [k1 2]; simp [rpC, F5]);
        (have r22 : w9.cell? ⟨q2, 2, none⟩ = some (.int .i64 2) := by rw [k2 2]; simp [rpC, F6]);
        (have r32 : w9.cell? ⟨q3, 2, none⟩ = some (.int .i64 82) := by rw [k3 2]; simp [rpC, F7]);
        (have r41 : w9.cell? ⟨q4, 1, none⟩ = some (.int .i64 4) := by rw [k4 1]; simp [rpC, F8]);
        (have r45 : w9.cell? ⟨q4, 5, none⟩ = some (.slice pa4 1 pac4) := by rw [k4 5]; simp [rpC]);
        clear k0 k1 k2 k3 k4 F1 F2 F3 F4 F5 F6 F7 F8 F9))
  go_ret
  exact ⟨rfl, bth HB8.out hb9⟩
end Go.Proofs.YtbpjlancjdbehaaDoor
