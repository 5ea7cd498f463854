/- proofs.Check$1: the next hash of a proof -/
import Derived.Test.YtbpjlancjdbehaaDoorQAnyOp
import Derived.Test.YtbpjlancjdbehaaDoorQSlices
import Derived.Test.YtbpjlancjdbehaaDoorQTileMap
import Derived.Test.YtbpjlancjdbehaaDoorQTreeSplit

set_option maxRecDepth 100000
namespace Go.Spec
open Go.RowKit
variable {P : Program} {w : World}
theorem SlAt.restR {size : Nat} {a : Option Addr} {n cap : Nat} {cs : List Value} {css : List (List Value)} (h : SlAt w size (.slice a n cap) (cs :: css)) (T E : TypeId) (hT : P.underlying T = some (.slice E)) (hE : (P.info? E).map (·.size) = some size) :
    ∃ a2 c2, (∀ w', (Instr.sliceAt T (.slice a n cap) (some (.int .i64 1)) none none).run P w' = .ok (.slice a2 css.length c2) w') ∧ SlAt w size (.slice a2 css.length c2) css := by
  have hc : n ≤ cap ∧ css.length + 1 = n := by
    obtain ⟨a', cap', hv, hc, _⟩ := h
    injection hv with e1 e2 e3
    subst e3; exact ⟨by omega, e2.symm⟩
  cases hq : P.info? E with
  | none => simp [hq] at hE
  | some i =>
    have hi : i.size = size := by simpa [hq] using hE
    obtain ⟨hc1, hc2⟩ := hc
    subst hc2
    have h1 : ¬ ((css.length + 1 : Nat) : Int) < 1 := by omega
    refine ⟨if cap = 1 then a else a.map (·.add (1 * size)), cap - 1, fun w' => ?_, ?_⟩
    · simp [Instr.sliceAt, Instr.slice, run_underlying hT, Instr.sliceBounds, Instr.sliceBound, asIntOf, Sem.run_bind, sizeOf, typeInfo, hq, hi]
      intro hx; exfalso; omega
    · by_cases hke : css.length = 0
      · have e0 : css = [] := List.length_eq_zero_iff.1 hke
        subst e0
        exact ⟨_, _, rfl, by simp, by simp, by simp⟩
      · obtain ⟨b, o, rfl, hlt⟩ := h.addr (by simp)
        have hd := h.dropS 1 (by simp; omega)
        rw [if_neg (by omega)]
        simpa [Addr.add_lit] using hd
end Go.Spec
namespace Go.Proofs.YtbpjlancjdbehaaDoor
open Go.RowKit Go.Spec
theorem Two.setRowG {g b : Nat} {w w' : World} (h : Two g b w w') (cs : Array Value) : Two g b w (w'.setRow g cs) :=
  ⟨h.os, h.tape, h.output, by rw [setRow_size']; exact h.size, fun k hk h1 h2 => by rw [setRow_ne h1]; exact h.block k hk h1 h2⟩
set_option maxHeartbeats 1000000 in
theorem pnext_any (gp : Nat) (v : Value) (H : List UInt8) (p : List (List UInt8)) (wS w : World) (hS : SlAt wS 32 v (hcs (H :: p))) (hwS : Below wS.heap.size wS w) (hg : Blk w gp #[v] 22) :
    Calls Tryd.prog 52 #[.pointer (some ⟨gp, 0, none⟩)] w fun e w' => e = .returned (.tuple #[hv H, .bool true]) ∧ (∃ v', Blk w' gp #[v'] 22 ∧ SlAt wS 32 v' (hcs p)) ∧ Two gp gp w w' := by
  obtain ⟨a, cap, rfl, hcap⟩ := hS.formH
  obtain ⟨b, o, rfl, hblt⟩ := hS.addr (by simp [hcs])
  have hH : H.length = 32 := hS.len32 H (by simp)
  obtain ⟨a2, c2, hrun, hS2⟩ := SlAt.restR (P := Tryd.prog) (cs := H.map bcell) (css := hcs p) hS 22 29 Tryd.underlying22 Tryd.sizeHash
  rw [hcs_length] at hrun hS2
  simp only [List.length_cons] at hrun
  have hw1 : Below w.heap.size w (w.alloc (.cells (hc zero32) 29)) := (Below.refl _ w).alloc (Nat.le_refl _) _
  have hZ : Blk (w.alloc (.cells (hc zero32) 29)) w.heap.size (hc zero32) 29 := Blk.new _ _ _
  have hg0 := hg.later hw1
  have hS0 := hS.below hwS (Nat.le_refl _)
  have hgw := hg.lt
  have HW1 := hid hw1
  have hne : w.heap.size ≠ gp := by omega
  have HT1 := hid (Two.of hw1 : Two gp gp w (w.alloc (.cells (hc zero32) 29)))
  generalize hgen : w.alloc (.cells (hc zero32) 29) = w0 at *
  have Hgen := hid hgen
  have hl1 : ((p.length : Int) + 1 == 0) = false := beq_eq_false_iff_ne.mpr (by omega)
  have hl2 : (((H :: p).length : Int) == 0) = false := beq_eq_false_iff_ne.mpr (by simp; omega)
  have hln : (H :: p).length = p.length + 1 := rfl
  have c0 := Blk.cell1 hg0
  have hs3 := Tryd.sizeHash
  have Hs := hid (show (Tryd.prog.info? 29).map (·.size) = some (hc H).size by rw [hc_size, hH]; exact Tryd.sizeHash)
  have Hsl := hid (show (Tryd.prog.info? 29).map (·.size) = some H.length by rw [hH]; exact Tryd.sizeHash)
  have Hz := hid (show (hc H).size = (hc zero32).size by rw [hc_size, hH]; rfl)
  have HS22 := hid (show (Tryd.prog.info? 22).map (·.size) = some 1 by kernel_rfl)
  have Hc := hid (fun w' (hw' : Below w.heap.size w w') => show ∀ j z, (H.map bcell)[j]? = some z → w'.cell? ((⟨b, o, none⟩ : Addr).add j) = some z from by
    obtain ⟨b', o', e1, _, _, h3⟩ := (hS0.below hw' (Nat.le_refl _)).at (i := 0) (cs := H.map bcell) (by simp [hcs])
    injection e1 with e1
    injection e1 with e2 e3
    subst e2; subst e3
    simpa using h3)
  have HG0 := hid hg0; have HZ := hid hZ; have HS2 := hid hS2
  clear hS hS0 hS2 hg hg0 hZ hw1 hH hgen hgw hblt hwS
  go_enter Tryd.func52, Tryd.ntmps52
  go_upto_region 1 with fail
  show Code.wp _ _ _ _ (w.alloc (.cells (hc zero32) 29))
  rw [Hgen.out]
  go_upto_region 3 with fail
  refine wp_region_anyK 6 (fun w' => Blk w' gp #[.slice (some ⟨b, o, none⟩) (p.length + 1) cap] 22 ∧ Below w.heap.size w w') (by kernel_rfl) ?_
  intro w1 he1 hb1
  have HZ1 := hid (HZ.out.later hb1)
  have HG1 := hid ((HG0.out.later hb1).setRow_ne (cs' := hc H) hne.symm)
  have T1 := hid (HT1.out.trans (Two.of hb1))
  have C0 := hid (show Blk w1 gp #[.slice (some ⟨b, o, none⟩) (p.length + 1) cap] 22 ∧ Below w.heap.size w w1 from ⟨HG0.out.later hb1, bth HW1.out hb1⟩)
  have C1 := hid (show Blk (w1.setRow w.heap.size (hc H)) gp #[.slice (some ⟨b, o, none⟩) (p.length + 1) cap] 22 ∧ Below w.heap.size w (w1.setRow w.heap.size (hc H)) from ⟨HG1.out, (bth HW1.out hb1).setRow (Nat.le_refl _) _⟩)
  clear he1 HG0 HZ HT1 hb1 c0
  show wpAnyK _ _ _ _ _ _ 7 (Array.replicate 7 false) _ _
  refine wpAnyK_take (i := 0) (v := .slice (some ⟨b, o, none⟩) (p.length + 1) cap) rfl (by kernel_rfl) (by kernel_rfl) (by kernel_rfl) (fun _ _ _ h => h) (by kernel_rfl) (YieldsW.load_one (by kernel_rfl) 22 _ rfl ⟨gp, 0, none⟩ (by kernel_rfl) (.slice (some ⟨b, o, none⟩) (p.length + 1) cap) _ (fun _ hw => Blk.cell1 hw.1) Tryd.underlying22 rfl) ?_
  (first | dsimp only [List.getElem_toArray, List.getElem_cons_succ, List.getElem_cons_zero] | dsimp (maxSteps := 10000000) only [List.getElem_toArray, List.getElem_cons_succ, List.getElem_cons_zero] | skip); (first | go_frame | simp (maxSteps := 10000000) only [Act.put, List.setIfInBounds_toArray, List.set_cons_succ, List.set_cons_zero] | skip)
  refine wpAnyK_take (i := 1) (v := .pointer (some ⟨b, o, none⟩)) rfl (by kernel_rfl) (by kernel_rfl) (by kernel_rfl) (fun _ _ _ h => h) (by kernel_rfl) (Or.inl ⟨by kernel_rfl, ?_⟩) ?_
  · intro w _
    go_simp
    try exact IntWalk.i64_in _ (by omega)
    try omega
  (first | dsimp only [List.getElem_toArray, List.getElem_cons_succ, List.getElem_cons_zero] | dsimp (maxSteps := 10000000) only [List.getElem_toArray, List.getElem_cons_succ, List.getElem_cons_zero] | skip); (first | go_frame | simp (maxSteps := 10000000) only [Act.put, List.setIfInBounds_toArray, List.set_cons_succ, List.set_cons_zero] | skip)
  refine wpAnyK_take (i := 2) (v := hv H) rfl (by kernel_rfl) (by kernel_rfl) (by kernel_rfl) (fun _ _ _ h => h) (by kernel_rfl) (YieldsW.load_hc (by kernel_rfl) 29 _ rfl ⟨b, o, none⟩ (by kernel_rfl) H _ (fun _ hw => Hc.out _ hw.2) Tryd.underlying29 rfl Hsl.out) ?_
  (first | dsimp only [List.getElem_toArray, List.getElem_cons_succ, List.getElem_cons_zero] | dsimp (maxSteps := 10000000) only [List.getElem_toArray, List.getElem_cons_succ, List.getElem_cons_zero] | skip); (first | go_frame | simp (maxSteps := 10000000) only [Act.put, List.setIfInBounds_toArray, List.set_cons_succ, List.set_cons_zero] | skip)
  refine wpAnyK_take (i := 3) (v := .slice (some ⟨b, o, none⟩) (p.length + 1) cap) rfl (by kernel_rfl) (by kernel_rfl) (by kernel_rfl) (fun _ _ _ h => h) (by kernel_rfl) (YieldsW.load_one (by kernel_rfl) 22 _ rfl ⟨gp, 0, none⟩ (by kernel_rfl) (.slice (some ⟨b, o, none⟩) (p.length + 1) cap) _ (fun _ hw => Blk.cell1 hw.1) Tryd.underlying22 rfl) ?_
  (first | dsimp only [List.getElem_toArray, List.getElem_cons_succ, List.getElem_cons_zero] | dsimp (maxSteps := 10000000) only [List.getElem_toArray, List.getElem_cons_succ, List.getElem_cons_zero] | skip); (first | go_frame | simp (maxSteps := 10000000) only [Act.put, List.setIfInBounds_toArray, List.set_cons_succ, List.set_cons_zero] | skip)
  refine wpAnyK_take (i := 4) (v := .slice a2 p.length c2) rfl (by kernel_rfl) (by kernel_rfl) (by kernel_rfl) (fun _ _ _ h => h) (by kernel_rfl) (Or.inl ⟨by kernel_rfl, ?_⟩) ?_
  · intro w _
    go_simp
    try exact IntWalk.i64_in _ (by omega)
    try omega
  (first | dsimp only [List.getElem_toArray, List.getElem_cons_succ, List.getElem_cons_zero] | dsimp (maxSteps := 10000000) only [List.getElem_toArray, List.getElem_cons_succ, List.getElem_cons_zero] | skip); (first | go_frame | simp (maxSteps := 10000000) only [Act.put, List.setIfInBounds_toArray, List.set_cons_succ, List.set_cons_zero] | skip)
  refine wpAnyK_forced (i := 5) (by kernel_rfl) rfl (fun _ => C0.out) ?_
  (first | dsimp only [List.getElem_toArray, List.getElem_cons_succ, List.getElem_cons_zero] | dsimp (maxSteps := 10000000) only [List.getElem_toArray, List.getElem_cons_succ, List.getElem_cons_zero] | skip); (first | go_frame | simp (maxSteps := 10000000) only [Act.put, List.setIfInBounds_toArray, List.set_cons_succ, List.set_cons_zero] | skip)
  refine wpList_store_blk rfl 29 _ _ rfl w.heap.size rfl (hc H) rfl _ _ HZ1.out Hz.out Hs.out (hc_row_one _) ?_
  refine wpList_nil ?_
  show wpAnyK _ _ _ _ _ _ _ _ _ _
  (first | dsimp only [List.getElem_toArray, List.getElem_cons_succ, List.getElem_cons_zero] | dsimp (maxSteps := 10000000) only [List.getElem_toArray, List.getElem_cons_succ, List.getElem_cons_zero] | skip); (first | go_frame | simp (maxSteps := 10000000) only [Act.put, List.setIfInBounds_toArray, List.set_cons_succ, List.set_cons_zero] | skip)
  refine wpAnyK_forced (i := 6) (by kernel_rfl) rfl (fun _ => C1.out) ?_
  (first | dsimp only [List.getElem_toArray, List.getElem_cons_succ, List.getElem_cons_zero] | dsimp (maxSteps := 10000000) only [List.getElem_toArray, List.getElem_cons_succ, List.getElem_cons_zero] | skip); (first | go_frame | simp (maxSteps := 10000000) only [Act.put, List.setIfInBounds_toArray, List.set_cons_succ, List.set_cons_zero] | skip)
  refine wpList_store_one rfl 22 _ _ rfl gp rfl (.slice a2 p.length c2) rfl _ _ HG1.out HS22.out rfl rfl ?_
  refine wpList_nil ?_
  show wpAnyK _ _ _ _ _ _ _ _ _ _
  (first | dsimp only [List.getElem_toArray, List.getElem_cons_succ, List.getElem_cons_zero] | dsimp (maxSteps := 10000000) only [List.getElem_toArray, List.getElem_cons_succ, List.getElem_cons_zero] | skip); (first | go_frame | simp (maxSteps := 10000000) only [Act.put, List.setIfInBounds_toArray, List.set_cons_succ, List.set_cons_zero] | skip)
  refine wpAnyK_done (by kernel_rfl) (by kernel_rfl) ?_ _
  (first | dsimp only [List.getElem_toArray, List.getElem_cons_succ, List.getElem_cons_zero] | dsimp (maxSteps := 10000000) only [List.getElem_toArray, List.getElem_cons_succ, List.getElem_cons_zero] | skip); (first | go_frame | simp (maxSteps := 10000000) only [Act.put, List.setIfInBounds_toArray, List.set_cons_succ, List.set_cons_zero] | skip)
  have HZ2 := hid ((HZ1.out.setRow (cs' := hc H)).setRow_ne (cs' := #[.slice a2 p.length c2]) hne)
  have HG2 := hid (HG1.out.setRow (cs' := #[.slice a2 p.length c2]))
  have T2 := hid (show Two gp gp w ((w1.setRow w.heap.size (hc H)).setRow gp #[.slice a2 p.length c2]) from (T1.out.setRow (Nat.le_refl _) _).setRowG _)
  generalize ((w1.setRow w.heap.size (hc H)).setRow gp #[.slice a2 p.length c2]) = w2 at *
  clear HZ1 HG1 T1
  go_wp2_with (first
    | ((with_reducible show wpList _ _ _ ({ dst := _, op := Op.store 29 _ _, type := _, pos := _, after := _, guard := _ } :: _) _ _); refine wpList_store_blk rfl 29 _ _ rfl w.heap.size rfl (hc H) rfl _ _ HZ2.out rfl Hs.out (hc_row_one _) ?_)
    | ((with_reducible show wpList _ _ _ ({ dst := _, op := Op.load 29 _, type := _, pos := _, after := _, guard := _ } :: _) _ _); refine wpList_load_blk rfl 29 _ rfl w.heap.size rfl 29 (hc H) _ HZ2.out Tryd.underlying29 rfl Hs.out ?_))
  refine bodyPost_ret (results_cell2 rfl _ w.heap.size 29 _ (0, 0) _ rfl (HZ2.out.setRow) Tryd.underlying29 rfl Hs.out) rfl ⟨rfl, ⟨_, HG2.out.setRow_ne hne.symm, HS2.out⟩, T2.out.setRow (Nat.le_refl _) _⟩
end Go.Proofs.YtbpjlancjdbehaaDoor
