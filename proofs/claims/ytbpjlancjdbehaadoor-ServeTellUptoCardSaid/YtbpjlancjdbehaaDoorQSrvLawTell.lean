/- the law ServeTell: the walk (printed by wip/servetell.py) -/
import Derived.Test.YtbpjlancjdbehaaDoorQMsgSame
import Derived.Test.YtbpjlancjdbehaaDoorQServed
import Derived.Test.YtbpjlancjdbehaaDoorQSrvGreat

set_option maxRecDepth 100000
namespace Go.Spec
open Go.RowKit
section
variable {P : Program} {ops : Array Oper} {C : World → Prop}
theorem YieldsW.load_agg {oi : Oper} {a : Act} (hw : Region.wanted oi (yielded ops a.tmps) = true) (ty : TypeId) (x : Operand) (ho : oi.op = .load ty x) (ad : Addr) (hx : a.eval x = .pointer (some ad)) (cs : Array Value) (d : TypeDesc)
    (hc : ∀ w', C w' → ∀ j v, cs.toList[j]? = some v → w'.cell? (ad.add j) = some v) (hu : P.underlying ty = some d) (hd : (match d with | .struct _ | .array _ _ => true | _ => false) = true) (hi : (P.info? ty).map (·.size) = some cs.size) : YieldsW P ops C oi (.agg cs) a :=
  .inl ⟨hw, fun w' hw' => by
    have hr := run_loadVar_agg (P := P) (w := w') ty ad cs.toList d (hc w' hw') hu hd (by simpa using hi)
    rw [Array.toArray_toList] at hr
    unfold execOp
    simp only [ho, hx, Instr.loadAt, Instr.sureAddr, Sem.run_bind, Sem.run_pure, Result.andThen_ok, hr]⟩
end
end Go.Spec
namespace Go.Proofs.YtbpjlancjdbehaaDoor
open Go.RowKit Go.Spec
theorem sameRp_self (x : RpK) : sameRp x x = true := by unfold sameRp; exact decide_eq_true rfl
set_option maxHeartbeats 16000000 in
theorem serveTell_law (S : Src) (ve vl vh vf : Value) (hd fd : List Sg) (r : Rq) (raw : List UInt8) (w : World) (hX : SrcIn w S ve vl vh vf hd fd) (hm : SrcMid S) (hi : RqI r) (hl : raw.length ≤ 1048576) (hG : ShaG w) :
    Calls Tryd.prog 8 #[.agg (srcC ve vl vh vf), r.v, sv raw] w fun e w' => e = .returned (.bool true) ∧ Below w.heap.size w w' := by
  have HG := hid hG; have HX := hid hX; have HI := hid hi
  have GT := hid (fun w' (hb : Below w.heap.size w w') => great21_det S ve vl vh vf hd fd w' (hX.below hb) hm)
  have SD := hid served_any
  have hones : ∀ v ∈ (srcC ve vl vh vf).toList, v.oneCell' = true := srcC_one _ _ _ _ (SlAt.oneS hX.entries) (SlAt.oneS hX.leaves) (SlAt.oneS hX.head.at_) (SlAt.oneS hX.fork.at_)
  have HO := hid hones
  clear hG hX hi hm hones
  go_enter Tryd.func8, Tryd.ntmps8
  go_upto_region 1 with fail
  refine wp_world (fun W => Blk W w.heap.size (srcC ve vl vh vf) 59 ∧ Blk W (w.heap.size + 1) r.cs 61 ∧ Below w.heap.size w W) ⟨(Blk.new _ _ _).alloc _, Blk.new' _ _ _ (by simp), ((Below.refl _ w).alloc (Nat.le_refl _) _).alloc (by simp) _⟩ ?_
  rintro w0 ⟨hS, hR, hB⟩
  have HS0 := hid hS; have HR0 := hid hR; have HB0 := hid hB
  clear hS hR hB
  obtain ⟨gb, hgb⟩ : ∃ gb, gB S hd fd = gb := ⟨_, rfl⟩
  rw [hgb] at GT
  have bad : ∀ (b : Bool), gb = b → True := fun _ _ => trivial
  clear bad
  cases gb with
  | true =>
    clear hgb
    go_wp2_with (first
      | ((with_reducible show wpList _ _ _ ({ dst := _, op := Op.load 59 _, type := _, pos := _, after := _, guard := _ } :: _) _ _); refine wpList_load_blk rfl 59 _ rfl w.heap.size rfl 59 (srcC ve vl vh vf) _ HS0.out Tryd.underlying59 rfl Tryd.sizeSrc ?_)
      | (go_at_call 28; refine (GT.out _ HB0.out).mono ?_; rintro e w1 ⟨rfl, hb1⟩)
      | (go_at_call 29; refine (SD.out _ (HG.out.later (bth HB0.out hb1))).mono ?_; rintro e w2 ⟨rfl, hb2⟩))
    go_ret
    exact ⟨rfl, bth (bth HB0.out hb1) hb2⟩
  | false =>
    have HSm := hid (gB_false hgb)
    clear hgb
    by_cases hr2 : 2000 < raw.length
    · have d1 : decide ((2000 : Int) < (raw.length : Int)) = true := by simp; omega
      clear hr2
      go_wp2_with (first
        | ((with_reducible show wpList _ _ _ ({ dst := _, op := Op.load 59 _, type := _, pos := _, after := _, guard := _ } :: _) _ _); refine wpList_load_blk rfl 59 _ rfl w.heap.size rfl 59 (srcC ve vl vh vf) _ HS0.out Tryd.underlying59 rfl Tryd.sizeSrc ?_)
        | (go_at_call 28; refine (GT.out _ HB0.out).mono ?_; rintro e w1 ⟨rfl, hb1⟩)
        | (go_at_call 29; refine (SD.out _ (HG.out.later (bth HB0.out hb1))).mono ?_; rintro e w2 ⟨rfl, hb2⟩))
      go_ret
      exact ⟨rfl, bth (bth HB0.out hb1) hb2⟩
    · have d1 : decide ((2000 : Int) < (raw.length : Int)) = false := by simp; omega
      clear hr2
      go_upto_region 4 with (first
        | ((with_reducible show wpList _ _ _ ({ dst := _, op := Op.load 59 _, type := _, pos := _, after := _, guard := _ } :: _) _ _); first
            | refine wpList_load_blk rfl 59 _ rfl w.heap.size rfl 59 (srcC ve vl vh vf) _ HS0.out Tryd.underlying59 rfl Tryd.sizeSrc ?_
            | refine wpList_load_blk rfl 59 _ rfl w.heap.size rfl 59 (srcC ve vl vh vf) _ HS1.out Tryd.underlying59 rfl Tryd.sizeSrc ?_
            | refine wpList_load_blk rfl 59 _ rfl w.heap.size rfl 59 (srcC ve vl vh vf) _ HS1a.out Tryd.underlying59 rfl Tryd.sizeSrc ?_)
        | (go_at_call 28; refine (GT.out _ HB0.out).mono ?_; rintro e w1 ⟨rfl, hb1⟩; have HS1 := hid (HS0.out.later hb1); have HS1a := hid (HS1.out.alloc (.cells (srcC nilS nilS nilS nilS) 63)))
        | ((with_reducible show wpList _ _ _ ({ dst := _, op := Op.store _ _ _, type := _, pos := _, after := _, guard := _ } :: _) _ _); refine wpList_store_newA rfl 63 _ _ rfl rfl (srcC ve vl vh vf) rfl _ 63 rfl Tryd.sizeSrcR HO.out ?_))
      refine wp_world (fun W => Blk W w.heap.size (srcC ve vl vh vf) 59 ∧ Blk W (w.heap.size + 1) r.cs 61 ∧ Blk W w1.heap.size (srcC ve vl vh vf) 63 ∧ Below w.heap.size w W) ⟨(HS0.out.later hb1).alloc _, (HR0.out.later hb1).alloc _, Blk.new _ _ _, (bth HB0.out hb1).alloc (bth HB0.out hb1).size _⟩ ?_
      rintro y ⟨hS, hR, hT, hB⟩
      have HS := hid hS; have HR := hid hR; have HT := hid hT; have HB := hid hB
      clear hS hR hT hB hb1 HS0 HR0 HB0 GT HO
      generalize w1.heap.size = g7 at *
      have SZ := hid (fun w' (hb : Below y.heap.size y w') => ssize_any S ve vl vh vf hd fd w' (HX.out.below (bth HB.out hb)) HSm.out)
      have RZ := hid (fun w' (hb : Below y.heap.size y w') => rsize_any S ve vl vh vf hd fd w' (HX.out.below (bth HB.out hb)) HSm.out)
      have AN := hid (fun w' (hb : Below y.heap.size y w') => answer_any S ve vl vh vf hd fd r w' (HX.out.below (bth HB.out hb)) HSm.out HI.out (HG.out.later (bth HB.out hb)))
      have RN := hid (fun w' (hb : Below y.heap.size y w') => ranswer_any S ve vl vh vf hd fd r w' (HX.out.below (bth HB.out hb)) HSm.out)
      have SV := hid (fun w' (hb : Below y.heap.size y w') => serve_any S ve vl vh vf hd fd raw w' (HX.out.below (bth HB.out hb)) HSm.out (by omega) (HG.out.later (bth HB.out hb)))
      have RV := hid (fun w' (hb : Below y.heap.size y w') => rserve_any S ve vl vh vf hd fd raw w' (HX.out.below (bth HB.out hb)) HSm.out (by omega))
      have hsm := ansRp_small S r HSm.out
      have SM := hid (fun w' uh ue up ds vh2 ve2 vp2 ds2 (h1 : RpIn w' (ansRp S r) uh ue up ds) (h2 : RpIn w' (ansRp S r) vh2 ve2 vp2 ds2) => rmsame_any (ansRp S r) (ansRp S r) uh ue up vh2 ve2 vp2 ds ds2 w' h1 h2 hsm hsm)
      rw [sameRp_self] at SM
      generalize ansRp S r = x at *
      generalize sizeS S = N at *
      generalize srvB S raw = T at *
      clear hsm
      refine wp_region_anyC (by kernel_rfl) ?_
      intro x0 he0 hbx0
      have Hc0 := hid hbx0
      clear hbx0 he0
      show wpAnyC _ _ _ _ _ 27 (Array.replicate 27 false) _ _
      refine wpAnyC_take (i := 0) (v := .agg (srcC ve vl vh vf)) rfl (by kernel_rfl) (by kernel_rfl) (by kernel_rfl) (fun _ _ _ h => h) (YieldsW.load_agg (by kernel_rfl) 59 _ rfl ⟨w.heap.size, 0, none⟩ (by kernel_rfl) (srcC ve vl vh vf) _ (fun _ hw => (HS.out.later hw).cells) Tryd.underlying59 rfl Tryd.sizeSrc) ?_
      (first | dsimp only [List.getElem_toArray, List.getElem_cons_succ, List.getElem_cons_zero] | dsimp (maxSteps := 10000000) only [List.getElem_toArray, List.getElem_cons_succ, List.getElem_cons_zero] | skip); (first | go_frame | simp (maxSteps := 10000000) only [Act.put, List.setIfInBounds_toArray, List.set_cons_succ, List.set_cons_zero] | skip)
      refine wpAnyC_take (i := 2) (v := .agg (srcC ve vl vh vf)) rfl (by kernel_rfl) (by kernel_rfl) (by kernel_rfl) (fun _ _ _ h => h) (YieldsW.load_agg (by kernel_rfl) 63 _ rfl ⟨g7, 0, none⟩ (by kernel_rfl) (srcC ve vl vh vf) _ (fun _ hw => (HT.out.later hw).cells) Tryd.underlying63 rfl Tryd.sizeSrcR) ?_
      (first | dsimp only [List.getElem_toArray, List.getElem_cons_succ, List.getElem_cons_zero] | dsimp (maxSteps := 10000000) only [List.getElem_toArray, List.getElem_cons_succ, List.getElem_cons_zero] | skip); (first | go_frame | simp (maxSteps := 10000000) only [Act.put, List.setIfInBounds_toArray, List.set_cons_succ, List.set_cons_zero] | skip)
      refine wpAnyC_forced (i := 1) (by kernel_rfl) rfl (Hc0.out) ?_
      (first | dsimp only [List.getElem_toArray, List.getElem_cons_succ, List.getElem_cons_zero] | dsimp (maxSteps := 10000000) only [List.getElem_toArray, List.getElem_cons_succ, List.getElem_cons_zero] | skip); (first | go_frame | simp (maxSteps := 10000000) only [Act.put, List.setIfInBounds_toArray, List.set_cons_succ, List.set_cons_zero] | skip)
      go_wp2_with (go_at_call 30; refine (SZ.out _ Hc0.out).mono ?_; rintro e x1 ⟨rfl, hb1⟩)
      show wpAnyC _ _ _ _ _ _ _ _ _
      (first | dsimp only [List.getElem_toArray, List.getElem_cons_succ, List.getElem_cons_zero] | dsimp (maxSteps := 10000000) only [List.getElem_toArray, List.getElem_cons_succ, List.getElem_cons_zero] | skip); (first | go_frame | simp (maxSteps := 10000000) only [Act.put, List.setIfInBounds_toArray, List.set_cons_succ, List.set_cons_zero] | skip)
      have Hc1 := hid (bth Hc0.out hb1)
      refine wpAnyC_forced (i := 3) (by kernel_rfl) rfl (Hc1.out) ?_
      (first | dsimp only [List.getElem_toArray, List.getElem_cons_succ, List.getElem_cons_zero] | dsimp (maxSteps := 10000000) only [List.getElem_toArray, List.getElem_cons_succ, List.getElem_cons_zero] | skip); (first | go_frame | simp (maxSteps := 10000000) only [Act.put, List.setIfInBounds_toArray, List.set_cons_succ, List.set_cons_zero] | skip)
      go_wp2_with (go_at_call 31; refine (RZ.out _ Hc1.out).mono ?_; rintro e x2 ⟨rfl, hb3⟩)
      show wpAnyC _ _ _ _ _ _ _ _ _
      (first | dsimp only [List.getElem_toArray, List.getElem_cons_succ, List.getElem_cons_zero] | dsimp (maxSteps := 10000000) only [List.getElem_toArray, List.getElem_cons_succ, List.getElem_cons_zero] | skip); (first | go_frame | simp (maxSteps := 10000000) only [Act.put, List.setIfInBounds_toArray, List.set_cons_succ, List.set_cons_zero] | skip)
      have Hc2 := hid (bth Hc1.out hb3)
      refine wpAnyC_take (i := 4) (v := .bool true) rfl (by kernel_rfl) (by kernel_rfl) (by kernel_rfl) (fun _ _ _ h => h) (Or.inl ⟨by kernel_rfl, ?_⟩) ?_
      · intro w _
        go_simp
        try exact IntWalk.i64_in _ (by omega)
        try omega
      (first | dsimp only [List.getElem_toArray, List.getElem_cons_succ, List.getElem_cons_zero] | dsimp (maxSteps := 10000000) only [List.getElem_toArray, List.getElem_cons_succ, List.getElem_cons_zero] | skip); (first | go_frame | simp (maxSteps := 10000000) only [Act.put, List.setIfInBounds_toArray, List.set_cons_succ, List.set_cons_zero] | skip)
      refine wpAnyC_take (i := 5) (v := .bool true) rfl (by kernel_rfl) (by kernel_rfl) (by kernel_rfl) (fun _ _ _ h => h) (Or.inl ⟨by kernel_rfl, ?_⟩) ?_
      · intro w _
        go_simp
        try exact IntWalk.i64_in _ (by omega)
        try omega
      (first | dsimp only [List.getElem_toArray, List.getElem_cons_succ, List.getElem_cons_zero] | dsimp (maxSteps := 10000000) only [List.getElem_toArray, List.getElem_cons_succ, List.getElem_cons_zero] | skip); (first | go_frame | simp (maxSteps := 10000000) only [Act.put, List.setIfInBounds_toArray, List.set_cons_succ, List.set_cons_zero] | skip)
      refine wpAnyC_take (i := 6) (v := .agg (srcC ve vl vh vf)) rfl (by kernel_rfl) (by kernel_rfl) (by kernel_rfl) (fun _ _ _ h => h) (YieldsW.load_agg (by kernel_rfl) 59 _ rfl ⟨w.heap.size, 0, none⟩ (by kernel_rfl) (srcC ve vl vh vf) _ (fun _ hw => (HS.out.later hw).cells) Tryd.underlying59 rfl Tryd.sizeSrc) ?_
      (first | dsimp only [List.getElem_toArray, List.getElem_cons_succ, List.getElem_cons_zero] | dsimp (maxSteps := 10000000) only [List.getElem_toArray, List.getElem_cons_succ, List.getElem_cons_zero] | skip); (first | go_frame | simp (maxSteps := 10000000) only [Act.put, List.setIfInBounds_toArray, List.set_cons_succ, List.set_cons_zero] | skip)
      refine wpAnyC_take (i := 7) (v := .agg r.cs) rfl (by kernel_rfl) (by kernel_rfl) (by kernel_rfl) (fun _ _ _ h => h) (YieldsW.load_agg (by kernel_rfl) 61 _ rfl ⟨(w.heap.size + 1), 0, none⟩ (by kernel_rfl) r.cs _ (fun _ hw => (HR.out.later hw).cells) Tryd.underlying61 rfl Tryd.sizeRqT) ?_
      (first | dsimp only [List.getElem_toArray, List.getElem_cons_succ, List.getElem_cons_zero] | dsimp (maxSteps := 10000000) only [List.getElem_toArray, List.getElem_cons_succ, List.getElem_cons_zero] | skip); (first | go_frame | simp (maxSteps := 10000000) only [Act.put, List.setIfInBounds_toArray, List.set_cons_succ, List.set_cons_zero] | skip)
      refine wpAnyC_take (i := 9) (v := .agg (srcC ve vl vh vf)) rfl (by kernel_rfl) (by kernel_rfl) (by kernel_rfl) (fun _ _ _ h => h) (YieldsW.load_agg (by kernel_rfl) 63 _ rfl ⟨g7, 0, none⟩ (by kernel_rfl) (srcC ve vl vh vf) _ (fun _ hw => (HT.out.later hw).cells) Tryd.underlying63 rfl Tryd.sizeSrcR) ?_
      (first | dsimp only [List.getElem_toArray, List.getElem_cons_succ, List.getElem_cons_zero] | dsimp (maxSteps := 10000000) only [List.getElem_toArray, List.getElem_cons_succ, List.getElem_cons_zero] | skip); (first | go_frame | simp (maxSteps := 10000000) only [Act.put, List.setIfInBounds_toArray, List.set_cons_succ, List.set_cons_zero] | skip)
      refine wpAnyC_take (i := 10) (v := .agg r.cs) rfl (by kernel_rfl) (by kernel_rfl) (by kernel_rfl) (fun _ _ _ h => h) (YieldsW.load_agg (by kernel_rfl) 61 _ rfl ⟨(w.heap.size + 1), 0, none⟩ (by kernel_rfl) r.cs _ (fun _ hw => (HR.out.later hw).cells) Tryd.underlying61 rfl Tryd.sizeRqT) ?_
      (first | dsimp only [List.getElem_toArray, List.getElem_cons_succ, List.getElem_cons_zero] | dsimp (maxSteps := 10000000) only [List.getElem_toArray, List.getElem_cons_succ, List.getElem_cons_zero] | skip); (first | go_frame | simp (maxSteps := 10000000) only [Act.put, List.setIfInBounds_toArray, List.set_cons_succ, List.set_cons_zero] | skip)
      refine wpAnyC_forced (i := 8) (by kernel_rfl) rfl (Hc2.out) ?_
      (first | dsimp only [List.getElem_toArray, List.getElem_cons_succ, List.getElem_cons_zero] | dsimp (maxSteps := 10000000) only [List.getElem_toArray, List.getElem_cons_succ, List.getElem_cons_zero] | skip); (first | go_frame | simp (maxSteps := 10000000) only [Act.put, List.setIfInBounds_toArray, List.set_cons_succ, List.set_cons_zero] | skip)
      go_wp2_with (go_at_call 33; refine (AN.out _ Hc2.out).mono ?_; rintro e x3 ⟨uh, ue, up, ds, rfl, hin1, hb8⟩)
      show wpAnyC _ _ _ _ _ _ _ _ _
      (first | dsimp only [List.getElem_toArray, List.getElem_cons_succ, List.getElem_cons_zero] | dsimp (maxSteps := 10000000) only [List.getElem_toArray, List.getElem_cons_succ, List.getElem_cons_zero] | skip); (first | go_frame | simp (maxSteps := 10000000) only [Act.put, List.setIfInBounds_toArray, List.set_cons_succ, List.set_cons_zero] | skip)
      have Hc3 := hid (bth Hc2.out hb8)
      refine wpAnyC_forced (i := 11) (by kernel_rfl) rfl (Hc3.out) ?_
      (first | dsimp only [List.getElem_toArray, List.getElem_cons_succ, List.getElem_cons_zero] | dsimp (maxSteps := 10000000) only [List.getElem_toArray, List.getElem_cons_succ, List.getElem_cons_zero] | skip); (first | go_frame | simp (maxSteps := 10000000) only [Act.put, List.setIfInBounds_toArray, List.set_cons_succ, List.set_cons_zero] | skip)
      go_wp2_with (go_at_call 34; refine (RN.out _ Hc3.out).mono ?_; rintro e x4 ⟨vh2, ve2, vp2, ds2, rfl, hin2, hb11⟩)
      show wpAnyC _ _ _ _ _ _ _ _ _
      (first | dsimp only [List.getElem_toArray, List.getElem_cons_succ, List.getElem_cons_zero] | dsimp (maxSteps := 10000000) only [List.getElem_toArray, List.getElem_cons_succ, List.getElem_cons_zero] | skip); (first | go_frame | simp (maxSteps := 10000000) only [Act.put, List.setIfInBounds_toArray, List.set_cons_succ, List.set_cons_zero] | skip)
      have Hc4 := hid (bth Hc3.out hb11)
      refine wpAnyC_forced (i := 12) (by kernel_rfl) rfl (Hc4.out) ?_
      (first | dsimp only [List.getElem_toArray, List.getElem_cons_succ, List.getElem_cons_zero] | dsimp (maxSteps := 10000000) only [List.getElem_toArray, List.getElem_cons_succ, List.getElem_cons_zero] | skip); (first | go_frame | simp (maxSteps := 10000000) only [Act.put, List.setIfInBounds_toArray, List.set_cons_succ, List.set_cons_zero] | skip)
      go_wp2_with (go_at_call 32; refine (SM.out _ uh ue up ds vh2 ve2 vp2 ds2 (hin1.below hb11) hin2).mono ?_; rintro e x5 ⟨rfl, hb12⟩)
      show wpAnyC _ _ _ _ _ _ _ _ _
      (first | dsimp only [List.getElem_toArray, List.getElem_cons_succ, List.getElem_cons_zero] | dsimp (maxSteps := 10000000) only [List.getElem_toArray, List.getElem_cons_succ, List.getElem_cons_zero] | skip); (first | go_frame | simp (maxSteps := 10000000) only [Act.put, List.setIfInBounds_toArray, List.set_cons_succ, List.set_cons_zero] | skip)
      have Hc5 := hid (bth Hc4.out hb12)
      refine wpAnyC_take (i := 13) (v := .bool true) rfl (by kernel_rfl) (by kernel_rfl) (by kernel_rfl) (fun _ _ _ h => h) (Or.inl ⟨by kernel_rfl, ?_⟩) ?_
      · intro w _
        go_simp
        try exact IntWalk.i64_in _ (by omega)
        try omega
      (first | dsimp only [List.getElem_toArray, List.getElem_cons_succ, List.getElem_cons_zero] | dsimp (maxSteps := 10000000) only [List.getElem_toArray, List.getElem_cons_succ, List.getElem_cons_zero] | skip); (first | go_frame | simp (maxSteps := 10000000) only [Act.put, List.setIfInBounds_toArray, List.set_cons_succ, List.set_cons_zero] | skip)
      refine wpAnyC_take (i := 14) (v := .bool true) rfl (by kernel_rfl) (by kernel_rfl) (by kernel_rfl) (fun _ _ _ h => h) (Or.inl ⟨by kernel_rfl, ?_⟩) ?_
      · intro w _
        go_simp
        try exact IntWalk.i64_in _ (by omega)
        try omega
      (first | dsimp only [List.getElem_toArray, List.getElem_cons_succ, List.getElem_cons_zero] | dsimp (maxSteps := 10000000) only [List.getElem_toArray, List.getElem_cons_succ, List.getElem_cons_zero] | skip); (first | go_frame | simp (maxSteps := 10000000) only [Act.put, List.setIfInBounds_toArray, List.set_cons_succ, List.set_cons_zero] | skip)
      refine wpAnyC_take (i := 15) (v := .agg (srcC ve vl vh vf)) rfl (by kernel_rfl) (by kernel_rfl) (by kernel_rfl) (fun _ _ _ h => h) (YieldsW.load_agg (by kernel_rfl) 59 _ rfl ⟨w.heap.size, 0, none⟩ (by kernel_rfl) (srcC ve vl vh vf) _ (fun _ hw => (HS.out.later hw).cells) Tryd.underlying59 rfl Tryd.sizeSrc) ?_
      (first | dsimp only [List.getElem_toArray, List.getElem_cons_succ, List.getElem_cons_zero] | dsimp (maxSteps := 10000000) only [List.getElem_toArray, List.getElem_cons_succ, List.getElem_cons_zero] | skip); (first | go_frame | simp (maxSteps := 10000000) only [Act.put, List.setIfInBounds_toArray, List.set_cons_succ, List.set_cons_zero] | skip)
      refine wpAnyC_take (i := 16) (v := sv raw) rfl (by kernel_rfl) (by kernel_rfl) (by kernel_rfl) (fun _ _ _ h => h) (Or.inl ⟨by kernel_rfl, ?_⟩) ?_
      · intro w _
        go_simp
        try exact IntWalk.i64_in _ (by omega)
        try omega
      (first | dsimp only [List.getElem_toArray, List.getElem_cons_succ, List.getElem_cons_zero] | dsimp (maxSteps := 10000000) only [List.getElem_toArray, List.getElem_cons_succ, List.getElem_cons_zero] | skip); (first | go_frame | simp (maxSteps := 10000000) only [Act.put, List.setIfInBounds_toArray, List.set_cons_succ, List.set_cons_zero] | skip)
      refine wpAnyC_take (i := 18) (v := .agg (srcC ve vl vh vf)) rfl (by kernel_rfl) (by kernel_rfl) (by kernel_rfl) (fun _ _ _ h => h) (YieldsW.load_agg (by kernel_rfl) 63 _ rfl ⟨g7, 0, none⟩ (by kernel_rfl) (srcC ve vl vh vf) _ (fun _ hw => (HT.out.later hw).cells) Tryd.underlying63 rfl Tryd.sizeSrcR) ?_
      (first | dsimp only [List.getElem_toArray, List.getElem_cons_succ, List.getElem_cons_zero] | dsimp (maxSteps := 10000000) only [List.getElem_toArray, List.getElem_cons_succ, List.getElem_cons_zero] | skip); (first | go_frame | simp (maxSteps := 10000000) only [Act.put, List.setIfInBounds_toArray, List.set_cons_succ, List.set_cons_zero] | skip)
      refine wpAnyC_take (i := 19) (v := sv raw) rfl (by kernel_rfl) (by kernel_rfl) (by kernel_rfl) (fun _ _ _ h => h) (Or.inl ⟨by kernel_rfl, ?_⟩) ?_
      · intro w _
        go_simp
        try exact IntWalk.i64_in _ (by omega)
        try omega
      (first | dsimp only [List.getElem_toArray, List.getElem_cons_succ, List.getElem_cons_zero] | dsimp (maxSteps := 10000000) only [List.getElem_toArray, List.getElem_cons_succ, List.getElem_cons_zero] | skip); (first | go_frame | simp (maxSteps := 10000000) only [Act.put, List.setIfInBounds_toArray, List.set_cons_succ, List.set_cons_zero] | skip)
      refine wpAnyC_forced (i := 17) (by kernel_rfl) rfl (Hc5.out) ?_
      (first | dsimp only [List.getElem_toArray, List.getElem_cons_succ, List.getElem_cons_zero] | dsimp (maxSteps := 10000000) only [List.getElem_toArray, List.getElem_cons_succ, List.getElem_cons_zero] | skip); (first | go_frame | simp (maxSteps := 10000000) only [Act.put, List.setIfInBounds_toArray, List.set_cons_succ, List.set_cons_zero] | skip)
      go_wp2_with (go_at_call 35; refine (SV.out _ Hc5.out).mono ?_; rintro e x6 ⟨rfl, hb17⟩)
      show wpAnyC _ _ _ _ _ _ _ _ _
      (first | dsimp only [List.getElem_toArray, List.getElem_cons_succ, List.getElem_cons_zero] | dsimp (maxSteps := 10000000) only [List.getElem_toArray, List.getElem_cons_succ, List.getElem_cons_zero] | skip); (first | go_frame | simp (maxSteps := 10000000) only [Act.put, List.setIfInBounds_toArray, List.set_cons_succ, List.set_cons_zero] | skip)
      have Hc6 := hid (bth Hc5.out hb17)
      refine wpAnyC_forced (i := 20) (by kernel_rfl) rfl (Hc6.out) ?_
      (first | dsimp only [List.getElem_toArray, List.getElem_cons_succ, List.getElem_cons_zero] | dsimp (maxSteps := 10000000) only [List.getElem_toArray, List.getElem_cons_succ, List.getElem_cons_zero] | skip); (first | go_frame | simp (maxSteps := 10000000) only [Act.put, List.setIfInBounds_toArray, List.set_cons_succ, List.set_cons_zero] | skip)
      go_wp2_with (go_at_call 36; refine (RV.out _ Hc6.out).mono ?_; rintro e x7 ⟨rfl, hb20⟩)
      show wpAnyC _ _ _ _ _ _ _ _ _
      (first | dsimp only [List.getElem_toArray, List.getElem_cons_succ, List.getElem_cons_zero] | dsimp (maxSteps := 10000000) only [List.getElem_toArray, List.getElem_cons_succ, List.getElem_cons_zero] | skip); (first | go_frame | simp (maxSteps := 10000000) only [Act.put, List.setIfInBounds_toArray, List.set_cons_succ, List.set_cons_zero] | skip)
      have Hc7 := hid (bth Hc6.out hb20)
      refine wpAnyC_take (i := 21) (v := .bool true) rfl (by kernel_rfl) (by kernel_rfl) (by kernel_rfl) (fun _ _ _ h => h) (Or.inl ⟨by kernel_rfl, ?_⟩) ?_
      · intro w _
        go_simp
        try exact IntWalk.i64_in _ (by omega)
        try omega
      (first | dsimp only [List.getElem_toArray, List.getElem_cons_succ, List.getElem_cons_zero] | dsimp (maxSteps := 10000000) only [List.getElem_toArray, List.getElem_cons_succ, List.getElem_cons_zero] | skip); (first | go_frame | simp (maxSteps := 10000000) only [Act.put, List.setIfInBounds_toArray, List.set_cons_succ, List.set_cons_zero] | skip)
      refine wpAnyC_take (i := 22) (v := .bool true) rfl (by kernel_rfl) (by kernel_rfl) (by kernel_rfl) (fun _ _ _ h => h) (Or.inl ⟨by kernel_rfl, ?_⟩) ?_
      · intro w _
        go_simp
        try exact IntWalk.i64_in _ (by omega)
        try omega
      (first | dsimp only [List.getElem_toArray, List.getElem_cons_succ, List.getElem_cons_zero] | dsimp (maxSteps := 10000000) only [List.getElem_toArray, List.getElem_cons_succ, List.getElem_cons_zero] | skip); (first | go_frame | simp (maxSteps := 10000000) only [Act.put, List.setIfInBounds_toArray, List.set_cons_succ, List.set_cons_zero] | skip)
      refine wpAnyC_take (i := 23) (v := .bool true) rfl (by kernel_rfl) (by kernel_rfl) (by kernel_rfl) (fun _ _ _ h => h) (Or.inl ⟨by kernel_rfl, ?_⟩) ?_
      · intro w _
        go_simp
        try exact IntWalk.i64_in _ (by omega)
        try omega
      (first | dsimp only [List.getElem_toArray, List.getElem_cons_succ, List.getElem_cons_zero] | dsimp (maxSteps := 10000000) only [List.getElem_toArray, List.getElem_cons_succ, List.getElem_cons_zero] | skip); (first | go_frame | simp (maxSteps := 10000000) only [Act.put, List.setIfInBounds_toArray, List.set_cons_succ, List.set_cons_zero] | skip)
      refine wpAnyC_forced (i := 24) (by kernel_rfl) rfl (Hc7.out) ?_
      (first | dsimp only [List.getElem_toArray, List.getElem_cons_succ, List.getElem_cons_zero] | dsimp (maxSteps := 10000000) only [List.getElem_toArray, List.getElem_cons_succ, List.getElem_cons_zero] | skip); (first | go_frame | simp (maxSteps := 10000000) only [Act.put, List.setIfInBounds_toArray, List.set_cons_succ, List.set_cons_zero] | skip)
      go_wp2_with (go_at_call 29; refine (SD.out _ (HG.out.later (bth HB.out Hc7.out))).mono ?_; rintro e x8 ⟨rfl, hb24⟩)
      show wpAnyC _ _ _ _ _ _ _ _ _
      (first | dsimp only [List.getElem_toArray, List.getElem_cons_succ, List.getElem_cons_zero] | dsimp (maxSteps := 10000000) only [List.getElem_toArray, List.getElem_cons_succ, List.getElem_cons_zero] | skip); (first | go_frame | simp (maxSteps := 10000000) only [Act.put, List.setIfInBounds_toArray, List.set_cons_succ, List.set_cons_zero] | skip)
      have Hc8 := hid (bth Hc7.out hb24)
      refine wpAnyC_take (i := 25) (v := .bool true) rfl (by kernel_rfl) (by kernel_rfl) (by kernel_rfl) (fun _ _ _ h => h) (Or.inl ⟨by kernel_rfl, ?_⟩) ?_
      · intro w _
        go_simp
        try exact IntWalk.i64_in _ (by omega)
        try omega
      (first | dsimp only [List.getElem_toArray, List.getElem_cons_succ, List.getElem_cons_zero] | dsimp (maxSteps := 10000000) only [List.getElem_toArray, List.getElem_cons_succ, List.getElem_cons_zero] | skip); (first | go_frame | simp (maxSteps := 10000000) only [Act.put, List.setIfInBounds_toArray, List.set_cons_succ, List.set_cons_zero] | skip)
      refine wpAnyC_take (i := 26) (v := .bool true) rfl (by kernel_rfl) (by kernel_rfl) (by kernel_rfl) (fun _ _ _ h => h) (Or.inl ⟨by kernel_rfl, ?_⟩) ?_
      · intro w _
        go_simp
        try exact IntWalk.i64_in _ (by omega)
        try omega
      (first | dsimp only [List.getElem_toArray, List.getElem_cons_succ, List.getElem_cons_zero] | dsimp (maxSteps := 10000000) only [List.getElem_toArray, List.getElem_cons_succ, List.getElem_cons_zero] | skip); (first | go_frame | simp (maxSteps := 10000000) only [Act.put, List.setIfInBounds_toArray, List.set_cons_succ, List.set_cons_zero] | skip)
      refine wpAnyC_done (by kernel_rfl) Hc8.out ?_ _
      (first | dsimp only [List.getElem_toArray, List.getElem_cons_succ, List.getElem_cons_zero] | dsimp (maxSteps := 10000000) only [List.getElem_toArray, List.getElem_cons_succ, List.getElem_cons_zero] | skip); (first | go_frame | simp (maxSteps := 10000000) only [Act.put, List.setIfInBounds_toArray, List.set_cons_succ, List.set_cons_zero] | skip)
      go_wp2
      go_ret
      exact ⟨rfl, bth HB.out Hc8.out⟩
end Go.Proofs.YtbpjlancjdbehaaDoor
