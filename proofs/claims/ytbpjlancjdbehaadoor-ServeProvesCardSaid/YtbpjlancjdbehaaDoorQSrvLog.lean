/- speculumlaw21.log -/
import Derived.Test.YtbpjlancjdbehaaDoorQSrvServe

set_option maxRecDepth 100000
namespace Go.Proofs.YtbpjlancjdbehaaDoor
open Go.RowKit Go.Spec
/-- the head of so many entries, that nobody signed -/
def logD (n : Int) : Sg := ⟨n, zero32, 0, [], [], none, 0⟩
def logS (es : List (List UInt8)) (n : Int) : Src := ⟨es, es.map leafL, [(n, zero32, 0, [], [])], []⟩
theorem logD_in (w : World) (n : Int) : (logD n).In w := ⟨rfl, slNilP _, by simp [logD], by simp [logD]⟩
theorem leafs_next (es : List (List UInt8)) (k : Nat) (h : k < es.length) : (es.take (k + 1)).map leafL = (es.take k).map leafL ++ [leafL es[k]] := by
  rw [List.take_succ_eq_append_getElem h, List.map_append]; rfl
theorem setCell_grown (W : World) (g j : Nat) (v : Value) : W.grownBy (W.setCell ⟨g, j, none⟩ v) (some g) := ⟨rfl, rfl, rfl, by simp [World.setCell], fun k _ hk => RowKit.Below.heap_setCell _ _ _ _ (fun e => hk (by rw [e]))⟩
theorem srcC_one (a b c d : Value) (h1 : a.oneCell' = true) (h2 : b.oneCell' = true) (h3 : c.oneCell' = true) (h4 : d.oneCell' = true) : ∀ v ∈ (srcC a b c d).toList, v.oneCell' = true := by
  intro v hv
  simp [srcC] at hv
  rcases hv with rfl | rfl | rfl | rfl
  · exact h1
  · exact h2
  · exact h3
  · exact h4
set_option maxHeartbeats 8000000 in
theorem log_any (v : Value) (es : List (List UInt8)) (n : Int) (w : World) (hS : StrsAt w v es) (hl : es.length ≤ 1000) (h1 : ∀ t ∈ es, t.length ≤ 100000) (hG : ShaG w) :
    Calls Tryd.prog 37 #[v, .int .i64 n] w fun e w' => ∃ ve vl vh vf, e = .returned (.agg (srcC ve vl vh vf)) ∧ SrcIn w' (logS es n) ve vl vh vf [logD n] [] ∧ Below w.heap.size w w' := by
  obtain ⟨i0, hi, hz0, hz1, hz2⟩ := info_parts Tryd.infoHash
  obtain ⟨ea, eac, rfl, _⟩ := hS.form
  have HS := hid hS; have HG := hid hG; have H1 := hid h1
  clear hS hG h1
  go_enter Tryd.func37, Tryd.ntmps37
  go_upto_region 1 with fail
  refine wp_world (fun W => Blk W w.heap.size (srcC nilS nilS nilS nilS) 59 ∧ Below w.heap.size w W) ⟨Blk.new _ _ _, (Below.refl _ w).alloc (Nat.le_refl _) _⟩ ?_
  rintro w0 ⟨hY0, hb0⟩
  have HY0 := hid hY0; have HB0 := hid hb0
  clear hY0 hb0
  go_upto_region 2 with (first
    | ((with_reducible show wpList _ _ _ ({ dst := _, op := Op.build 90 _, type := _, pos := _, after := _, guard := _ } :: _) _ _); refine wpList_buildP rfl 90 [(0, .tmp 8)] rfl (.agg (hdA n zero32)) (fun w => by kernel_rfl) ?_)
    | ((with_reducible show wpList _ _ _ ({ dst := _, op := Op.build 92 _, type := _, pos := _, after := _, guard := _ } :: _) _ _); refine wpList_buildP rfl 92 [(0, .tmp 9)] rfl (.agg (sgA n zero32 0 [] (.slice none 0 0))) (fun w => by kernel_rfl) ?_)
    | (refine wpList_buildSlice_one rfl 57 92 _ rfl 36 (.agg (sgA 0 zero32 0 [] (.slice none 0 0))) (.agg (sgA n zero32 0 [] (.slice none 0 0))) (sgA n zero32 0 [] (.slice none 0 0)) rfl Tryd.underlying57 (by kernel_rfl) rfl rfl (by decide) (by decide) ?_)
    | ((with_reducible show wpList _ _ _ ({ dst := _, op := Op.build 59 _, type := _, pos := _, after := _, guard := _ } :: _) _ _); refine wpList_buildP rfl 59 [(0, .tmp 7), (2, .tmp 11)] rfl (.agg (srcC (.slice ea es.length eac) nilS (.slice (some ⟨w0.heap.size, 0, none⟩) 1 1) nilS)) (fun w => by kernel_rfl) ?_)
    | ((with_reducible show wpList _ _ _ ({ dst := _, op := Op.store _ _ _, type := _, pos := _, after := _, guard := _ } :: _) _ _); refine wpList_store_blk rfl 59 _ _ rfl (w0.heap.size + 1) rfl (srcC (.slice ea es.length eac) nilS (.slice (some ⟨w0.heap.size, 0, none⟩) 1 1) nilS) rfl _ 59 (Blk.new' _ _ _ (by simp)) rfl Tryd.sizeSrc (srcC_one _ _ _ _ rfl rfl rfl rfl) ?_))
  refine wp_world (fun W => Blk W w.heap.size (srcC nilS nilS nilS nilS) 59 ∧ Blk W w0.heap.size (sgA n zero32 0 [] (.slice none 0 0)) 92 ∧ Blk W (w0.heap.size + 1) (srcC (.slice ea es.length eac) nilS (.slice (some ⟨w0.heap.size, 0, none⟩) 1 1) nilS) 59 ∧ Below w.heap.size w W ∧ w.heap.size < w0.heap.size)
    ⟨((HY0.out.alloc _).alloc _).setRow_ne (by have := HY0.out.lt; omega), ((Blk.new _ _ _).alloc _).setRow_ne (by omega), (Blk.new' _ _ _ (by simp)).setRow, ((HB0.out.alloc HB0.out.size _).alloc (by have := HB0.out.size; simp; omega) _).setRow (by have := HB0.out.size; omega) _, HY0.out.lt⟩ ?_
  rintro w1 ⟨hY1, hH1, hS1, hB1, hlt1⟩
  have HY1 := hid hY1; have HH1 := hid hH1; have HS1 := hid hS1; have HB1 := hid hB1; have Hlt1 := hid hlt1
  clear hY1 hH1 hS1 hB1 hlt1 HY0 HB0
  generalize w0.heap.size = gh at *
  obtain ⟨g5, hg5⟩ : ∃ g5, gh + 1 = g5 := ⟨_, rfl⟩
  have Hg5 := hid hg5
  rw [hg5] at HS1
  simp only [hg5]
  clear hg5
  go_wp2_with fail
  go_loopw [6] (fun iv wr => ∃ (k : Nat) (lv : Value), k ≤ es.length ∧ iv = .int .i64 (k : Int) ∧ Blk wr g5 (srcC (.slice ea es.length eac) lv (.slice (some ⟨gh, 0, none⟩) 1 1) nilS) 59 ∧ wr.ownsRow (g5 + 1) 29 32 lv k (hflat ((es.take k).map leafL)) ∧ Blk wr gh (sgA n zero32 0 [] (.slice none 0 0)) 92 ∧ Blk wr w.heap.size (srcC nilS nilS nilS nilS) 59 ∧ Below w.heap.size w wr) (fun iv _ => es.length - (intOf iv).toNat)
  case atStart => exact ⟨0, nilS, by omega, rfl, HS1.out, World.ownsRow_nil _ _ _ _, HH1.out, HY1.out, HB1.out⟩
  case round =>
    obtain ⟨k, lv, hk, rfl, hs, hown, hh, hy, hb⟩ := hrel
    have HSr := hid hs; have Hown := hid hown; have HHr := hid hh; have HYr := hid hy; have HBr := hid hb
    clear hs hown hh hy hb HY1 HH1 HS1 HB1
    by_cases hlt : k < es.length
    · have hd : decide (k < es.length) = true := by simpa using hlt
      obtain ⟨bb, o, rfl, hbl, hcell⟩ := HS.out.at hlt
      have hX := H1.out _ (List.getElem_mem hlt)
      have Hnext := hid (leafs_next es k hlt)
      have LF := hid (fun w' h0 => leaf_any es[k] w' (by omega) h0)
      have HLl := hid (leafL_len es[k])
      generalize leafL es[k] = L at *
      generalize es[k] = X at *
      generalize hM : (es.take k).map leafL = M at *
      have Hc := hid (fun w' (hb : Below w.heap.size w w') => show w'.cell? ⟨bb, o + k, none⟩ = some (sv X) from (hb.cell (p := ⟨bb, o + k, none⟩) hbl).trans hcell)
      have Hbl := hid hbl
      have H22 := hid (show (Tryd.prog.info? 22).map (·.size) = some 1 by kernel_rfl)
      have HM := hid hM
      clear hcell hX hbl hM
      go_upto_region 5 with fail
      refine wp_region_anyK 10 (fun w' => Blk w' g5 (srcC (.slice (some ⟨bb, o, none⟩) es.length eac) lv (.slice (some ⟨gh, 0, none⟩) 1 1) nilS) 59 ∧ w'.cell? ⟨bb, o + k, none⟩ = some (sv X)) (by kernel_rfl) ?_
      intro x0 he0 hbx0
      have C0 := hid (And.intro (HSr.out.later hbx0) (Hc.out _ (bth HBr.out hbx0)))
      have Hx0 := hid hbx0
      clear he0 hbx0
      show wpAnyK _ _ _ _ _ _ 11 (Array.replicate 11 false) _ _
      refine wpAnyK_take (i := 0) (v := .pointer (some ⟨g5, 1, none⟩)) rfl (by kernel_rfl) (by kernel_rfl) (by kernel_rfl) (fun _ _ _ h => h) (by kernel_rfl) (Or.inl ⟨by kernel_rfl, ?_⟩) ?_
      · intro w _
        go_simp
        try exact IntWalk.i64_in _ (by omega)
        try omega
      (first | dsimp only [List.getElem_toArray, List.getElem_cons_succ, List.getElem_cons_zero] | dsimp (maxSteps := 10000000) only [List.getElem_toArray, List.getElem_cons_succ, List.getElem_cons_zero] | skip); (first | go_frame | simp (maxSteps := 10000000) only [Act.put, List.setIfInBounds_toArray, List.set_cons_succ, List.set_cons_zero] | skip)
      refine wpAnyK_take (i := 1) (v := lv) rfl (by kernel_rfl) (by kernel_rfl) (by kernel_rfl) (fun _ _ _ h => h) (by kernel_rfl) (YieldsW.load_one (by kernel_rfl) 22 _ rfl ⟨g5, 1, none⟩ (by kernel_rfl) (lv) _ (fun _ hw => Blk.cell hw.1 1) Tryd.underlying22 rfl) ?_
      (first | dsimp only [List.getElem_toArray, List.getElem_cons_succ, List.getElem_cons_zero] | dsimp (maxSteps := 10000000) only [List.getElem_toArray, List.getElem_cons_succ, List.getElem_cons_zero] | skip); (first | go_frame | simp (maxSteps := 10000000) only [Act.put, List.setIfInBounds_toArray, List.set_cons_succ, List.set_cons_zero] | skip)
      refine wpAnyK_take (i := 2) (v := .slice (some ⟨bb, o, none⟩) es.length eac) rfl (by kernel_rfl) (by kernel_rfl) (by kernel_rfl) (fun _ _ _ h => h) (by kernel_rfl) (Or.inl ⟨by kernel_rfl, ?_⟩) ?_
      · intro w _
        go_simp
        try exact IntWalk.i64_in _ (by omega)
        try omega
      (first | dsimp only [List.getElem_toArray, List.getElem_cons_succ, List.getElem_cons_zero] | dsimp (maxSteps := 10000000) only [List.getElem_toArray, List.getElem_cons_succ, List.getElem_cons_zero] | skip); (first | go_frame | simp (maxSteps := 10000000) only [Act.put, List.setIfInBounds_toArray, List.set_cons_succ, List.set_cons_zero] | skip)
      refine wpAnyK_take (i := 3) (v := .int .i64 (k : Int)) rfl (by kernel_rfl) (by kernel_rfl) (by kernel_rfl) (fun _ _ _ h => h) (by kernel_rfl) (Or.inl ⟨by kernel_rfl, ?_⟩) ?_
      · intro w _
        go_simp
        try exact IntWalk.i64_in _ (by omega)
        try omega
      (first | dsimp only [List.getElem_toArray, List.getElem_cons_succ, List.getElem_cons_zero] | dsimp (maxSteps := 10000000) only [List.getElem_toArray, List.getElem_cons_succ, List.getElem_cons_zero] | skip); (first | go_frame | simp (maxSteps := 10000000) only [Act.put, List.setIfInBounds_toArray, List.set_cons_succ, List.set_cons_zero] | skip)
      refine wpAnyK_take (i := 4) (v := .pointer (some ⟨bb, o + k, none⟩)) rfl (by kernel_rfl) (by kernel_rfl) (by kernel_rfl) (fun _ _ _ h => h) (by kernel_rfl) (Or.inl ⟨by kernel_rfl, ?_⟩) ?_
      · intro w _
        go_simp
        try exact IntWalk.i64_in _ (by omega)
        try omega
      (first | dsimp only [List.getElem_toArray, List.getElem_cons_succ, List.getElem_cons_zero] | dsimp (maxSteps := 10000000) only [List.getElem_toArray, List.getElem_cons_succ, List.getElem_cons_zero] | skip); (first | go_frame | simp (maxSteps := 10000000) only [Act.put, List.setIfInBounds_toArray, List.set_cons_succ, List.set_cons_zero] | skip)
      refine wpAnyK_take (i := 5) (v := sv X) rfl (by kernel_rfl) (by kernel_rfl) (by kernel_rfl) (fun _ _ _ h => h) (by kernel_rfl) (YieldsW.load_one (by kernel_rfl) 9 _ rfl ⟨bb, o + k, none⟩ (by kernel_rfl) (sv X) _ (fun _ hw => hw.2) Tryd.underlying9 rfl) ?_
      (first | dsimp only [List.getElem_toArray, List.getElem_cons_succ, List.getElem_cons_zero] | dsimp (maxSteps := 10000000) only [List.getElem_toArray, List.getElem_cons_succ, List.getElem_cons_zero] | skip); (first | go_frame | simp (maxSteps := 10000000) only [Act.put, List.setIfInBounds_toArray, List.set_cons_succ, List.set_cons_zero] | skip)
      refine wpAnyK_forced (i := 6) (by kernel_rfl) rfl (fun _ => C0.out) ?_
      (first | dsimp only [List.getElem_toArray, List.getElem_cons_succ, List.getElem_cons_zero] | dsimp (maxSteps := 10000000) only [List.getElem_toArray, List.getElem_cons_succ, List.getElem_cons_zero] | skip); (first | go_frame | simp (maxSteps := 10000000) only [Act.put, List.setIfInBounds_toArray, List.set_cons_succ, List.set_cons_zero] | skip)
      go_wp2_with (go_at_call 64; refine (LF.out _ (HG.out.later (bth HBr.out Hx0.out))).mono ?_; rintro e x1 ⟨rfl, hbx⟩)
      show wpAnyK _ _ _ _ _ _ _ _ _ _
      (first | dsimp only [List.getElem_toArray, List.getElem_cons_succ, List.getElem_cons_zero] | dsimp (maxSteps := 10000000) only [List.getElem_toArray, List.getElem_cons_succ, List.getElem_cons_zero] | skip); (first | go_frame | simp (maxSteps := 10000000) only [Act.put, List.setIfInBounds_toArray, List.set_cons_succ, List.set_cons_zero] | skip)
      have Hx1 := hid (bth Hx0.out hbx)
      have C1 := hid (And.intro (HSr.out.later Hx1.out) (Hc.out _ (bth HBr.out Hx1.out)))
      have C2 := hid (And.intro (C1.out.1.alloc (.cells (hc L) 29)) (Hc.out _ ((bth HBr.out Hx1.out).alloc (bth HBr.out Hx1.out).size (.cells (hc L) 29))))
      have Hown1 := hid (Hown.out.later Hx1.out)
      clear hbx C0 LF
      refine wpAnyK_forced (i := 7) (by kernel_rfl) rfl (fun _ => C1.out) ?_
      (first | dsimp only [List.getElem_toArray, List.getElem_cons_succ, List.getElem_cons_zero] | dsimp (maxSteps := 10000000) only [List.getElem_toArray, List.getElem_cons_succ, List.getElem_cons_zero] | skip); (first | go_frame | simp (maxSteps := 10000000) only [Act.put, List.setIfInBounds_toArray, List.set_cons_succ, List.set_cons_zero] | skip)
      refine wpList_buildSlice_one rfl 22 29 _ rfl 32 (hv zero32) (hv L) (hc L) rfl Tryd.underlying22 Tryd.infoHash2 rfl (by rw [hc_size, HLl.out]) (by decide) (by decide) ?_
      refine wpList_nil ?_
      show wpAnyK _ _ _ _ _ _ _ _ _ _
      (first | dsimp only [List.getElem_toArray, List.getElem_cons_succ, List.getElem_cons_zero] | dsimp (maxSteps := 10000000) only [List.getElem_toArray, List.getElem_cons_succ, List.getElem_cons_zero] | skip); (first | go_frame | simp (maxSteps := 10000000) only [Act.put, List.setIfInBounds_toArray, List.set_cons_succ, List.set_cons_zero] | skip)
      refine wpAnyK_forced (i := 8) (by kernel_rfl) rfl (fun _ => C2.out) ?_
      (first | dsimp only [List.getElem_toArray, List.getElem_cons_succ, List.getElem_cons_zero] | dsimp (maxSteps := 10000000) only [List.getElem_toArray, List.getElem_cons_succ, List.getElem_cons_zero] | skip); (first | go_frame | simp (maxSteps := 10000000) only [Act.put, List.setIfInBounds_toArray, List.set_cons_succ, List.set_cons_zero] | skip)
      refine wpList_app rfl _ _ 22 rfl (g5 + 1) 29 i0 (hv zero32) 32 32 Tryd.underlying22 hi hz0 hz1 hz2 rfl (by decide) lv k (hflat M) rfl (Hown1.out.alloc _) ⟨x1.heap.size, 0, none⟩ 1 1 (L.map bcell) rfl (by simp [HLl.out]) ?c3 (bcell_one L) (by unfold maxLen; omega) (by omega) (by have := C1.out.1.lt; simp; omega) ?_
      case c3 =>
        intro j u hj
        exact (Blk.new x1 (hc L) 29).cells j u (by rw [hc_toList]; exact hj)
      intro v' w5 hown' hgrow hat
      have keep : ∀ k, k < g5 + 1 → w5.heap[k]? = (x1.alloc (.cells (hc L) 29)).heap[k]? := fun k hk => hgrow.block k (by have := C1.out.1.lt; simp; omega) (fun e => by have := (Hown1.out.lt _ e.symm).1; omega)
      have hS5 := (keep g5 (by omega)).trans C2.out.1
      have hH5 := (keep gh (by have := Hg5.out; omega)).trans ((HHr.out.later Hx1.out).alloc (.cells (hc L) 29))
      have hY5 := (keep w.heap.size (by have := Hg5.out; have := Hlt1.out; omega)).trans ((HYr.out.later Hx1.out).alloc (.cells (hc L) 29))
      have hB4 := (bth HBr.out Hx1.out).alloc (bth HBr.out Hx1.out).size (.cells (hc L) 29)
      have hB5 := hB4.grown hgrow hB4.size (fun q hq => by have := (Hown1.out.lt q hq).1; have := Hg5.out; have := Hlt1.out; omega)
      have HS5 := hid (show Blk w5 g5 _ _ from hS5); have HH5 := hid (show Blk w5 gh _ _ from hH5); have HY5 := hid (show Blk w5 w.heap.size _ _ from hY5); have HB5 := hid hB5
      have Hown5 := hid hown'
      have C5 := hid (And.intro HS5.out (Hc.out _ HB5.out))
      clear hS5 hH5 hY5 hB4 hB5 hown' hgrow hat keep
      refine wpList_nil ?_
      show wpAnyK _ _ _ _ _ _ _ _ _ _
      (first | dsimp only [List.getElem_toArray, List.getElem_cons_succ, List.getElem_cons_zero] | dsimp (maxSteps := 10000000) only [List.getElem_toArray, List.getElem_cons_succ, List.getElem_cons_zero] | skip); (first | go_frame | simp (maxSteps := 10000000) only [Act.put, List.setIfInBounds_toArray, List.set_cons_succ, List.set_cons_zero] | skip)
      have c1 : w5.cell? ⟨g5, 1, none⟩ = some lv := Blk.cell HS5.out 1
      have f1 : w5.frozen? ⟨g5, 1, none⟩ = false := Blk.free HS5.out 1
      obtain ⟨va, vc, rfl, _⟩ := ownsRow_form Hown5.out
      refine wpAnyK_take (i := 9) (v := .pointer (some ⟨g5, 1, none⟩)) rfl (by kernel_rfl) (by kernel_rfl) (by kernel_rfl) (fun _ _ _ h => h) (by kernel_rfl) (Or.inl ⟨by kernel_rfl, ?_⟩) ?_
      · intro w _
        go_simp
        try exact IntWalk.i64_in _ (by omega)
        try omega
      (first | dsimp only [List.getElem_toArray, List.getElem_cons_succ, List.getElem_cons_zero] | dsimp (maxSteps := 10000000) only [List.getElem_toArray, List.getElem_cons_succ, List.getElem_cons_zero] | skip); (first | go_frame | simp (maxSteps := 10000000) only [Act.put, List.setIfInBounds_toArray, List.set_cons_succ, List.set_cons_zero] | skip)
      refine wpAnyK_forced (i := 10) (by kernel_rfl) rfl (fun _ => C5.out) ?_
      (first | dsimp only [List.getElem_toArray, List.getElem_cons_succ, List.getElem_cons_zero] | dsimp (maxSteps := 10000000) only [List.getElem_toArray, List.getElem_cons_succ, List.getElem_cons_zero] | skip); (first | go_frame | simp (maxSteps := 10000000) only [Act.put, List.setIfInBounds_toArray, List.set_cons_succ, List.set_cons_zero] | skip)
      go_wp2_with fail
      show wpAnyK _ _ _ _ _ _ _ _ _ _
      (first | dsimp only [List.getElem_toArray, List.getElem_cons_succ, List.getElem_cons_zero] | dsimp (maxSteps := 10000000) only [List.getElem_toArray, List.getElem_cons_succ, List.getElem_cons_zero] | skip); (first | go_frame | simp (maxSteps := 10000000) only [Act.put, List.setIfInBounds_toArray, List.set_cons_succ, List.set_cons_zero] | skip)
      refine wpAnyK_done (by kernel_rfl) (by kernel_rfl) ?_ _
      have hg := setCell_grown w5 g5 1 (.slice va (k + 1) vc)
      have hS6 : Blk (w5.setCell ⟨g5, 1, none⟩ (.slice va (k + 1) vc)) g5 (srcC (.slice (some ⟨bb, o, none⟩) es.length eac) (.slice va (k + 1) vc) (.slice (some ⟨gh, 0, none⟩) 1 1) nilS) 59 := by
        have := HS5.out.setCell 1 (.slice va (k + 1) vc)
        simpa [srcC] using this
      have HS6 := hid hS6
      have Hown6 := hid (Hown5.out.kept hg (.inr fun e => by have := (Hown5.out.lt _ e).1; omega))
      have HH6 := hid (show Blk (w5.setCell ⟨g5, 1, none⟩ (.slice va (k + 1) vc)) gh _ _ from (hg.block gh HH5.out.lt (fun e => by injection e with e; have := Hg5.out; omega)).trans HH5.out)
      have HY6 := hid (show Blk (w5.setCell ⟨g5, 1, none⟩ (.slice va (k + 1) vc)) w.heap.size _ _ from (hg.block w.heap.size HY5.out.lt (fun e => by injection e with e; have := Hg5.out; have := Hlt1.out; omega)).trans HY5.out)
      have HB6 := hid (HB5.out.grown hg HB5.out.size (fun q hq => by injection hq with hq; have := Hg5.out; have := Hlt1.out; omega))
      clear hS6 hg c1 f1
      generalize w5.setCell ⟨g5, 1, none⟩ (.slice va (k + 1) vc) = w6 at *
      (first | dsimp only [List.getElem_toArray, List.getElem_cons_succ, List.getElem_cons_zero] | dsimp (maxSteps := 10000000) only [List.getElem_toArray, List.getElem_cons_succ, List.getElem_cons_zero] | skip); (first | go_frame | simp (maxSteps := 10000000) only [Act.put, List.setIfInBounds_toArray, List.set_cons_succ, List.set_cons_zero] | skip)
      go_wp2
      go_roundw
      case rel => exact ⟨k + 1, _, by omega, by go_num, HS6.out, by rw [Hnext.out, hflat_snoc]; exact Hown6.out, HH6.out, HY6.out, HB6.out⟩
      case measure => simp [intOf]; omega
    · obtain rfl : k = es.length := by omega
      have hd : decide (es.length < es.length) = false := by simp
      rw [List.take_length] at Hown
      obtain ⟨va, vc, rfl, _⟩ := ownsRow_form Hown.out
      go_wp2_with (first
        | ((with_reducible show wpList _ _ _ ({ dst := _, op := Op.load 59 _, type := _, pos := _, after := _, guard := _ } :: _) _ _); refine wpList_load_blk rfl 59 _ rfl g5 rfl 59 (srcC (.slice ea es.length eac) (.slice va es.length vc) (.slice (some ⟨gh, 0, none⟩) 1 1) nilS) _ HSr.out Tryd.underlying59 rfl Tryd.sizeSrc ?_)
        | ((with_reducible show wpList _ _ _ ({ dst := _, op := Op.store _ _ _, type := _, pos := _, after := _, guard := _ } :: _) _ _); refine wpList_store_blk rfl 59 _ _ rfl w.heap.size rfl (srcC (.slice ea es.length eac) (.slice va es.length vc) (.slice (some ⟨gh, 0, none⟩) 1 1) nilS) rfl _ 59 HYr.out rfl Tryd.sizeSrc (srcC_one _ _ _ _ rfl rfl rfl rfl) ?_))
      have hY := HYr.out.setRow (cs' := srcC (.slice ea es.length eac) (.slice va es.length vc) (.slice (some ⟨gh, 0, none⟩) 1 1) nilS)
      have hB := HBr.out.setRow (g := w.heap.size) (Nat.le_refl _) (srcC (.slice ea es.length eac) (.slice va es.length vc) (.slice (some ⟨gh, 0, none⟩) 1 1) nilS)
      have hO := Hown.out.setB (g := w.heap.size) (cs := srcC (.slice ea es.length eac) (.slice va es.length vc) (.slice (some ⟨gh, 0, none⟩) 1 1) nilS) (by have := Hg5.out; have := Hlt1.out; omega)
      have hH := HHr.out.setRow_ne (k := w.heap.size) (cs' := srcC (.slice ea es.length eac) (.slice va es.length vc) (.slice (some ⟨gh, 0, none⟩) 1 1) nilS) (by have := Hlt1.out; omega)
      refine bodyPost_ret (results_cell_row rfl _ _ w.heap.size 59 _ (0, 0) _ rfl hY Tryd.underlying59 rfl Tryd.sizeSrc) rfl ?_
      refine ⟨_, _, _, _, rfl, ⟨HS.out.below hB, ?_, ?_, SgsAt.nil _, rfl, rfl⟩, hB⟩
      · exact SlAt.of_owns (size := 32) (hs := es.map leafL) (by rw [List.length_map]; exact hO) (fun x hx => by obtain ⟨y, _, rfl⟩ := List.mem_map.1 hx; exact leafL_len y)
      · refine ⟨⟨_, _, rfl, Nat.le_refl _, ?_, fun i cs hi => ?_⟩, fun d hd => by rw [List.mem_singleton.1 hd]; exact logD_in _ n⟩
        · intro cs hcs
          rw [List.map_singleton, List.mem_singleton] at hcs
          subst hcs
          exact Sg.L_len (d := logD n) rfl
        · have h0 : i = 0 := by have := (List.getElem?_eq_some_iff.1 hi).1; simpa using this
          subst h0
          rw [List.map_singleton, List.getElem?_cons_zero] at hi
          injection hi with hi
          subst hi
          refine ⟨gh, 0, rfl, hH.lt, fun j u hj => ?_⟩
          have := hH.cells j u hj
          rw [Addr.add_lit] at this
          simpa using this
end Go.Proofs.YtbpjlancjdbehaaDoor
