/- speculumlaw14.tiled: the chapter's example (printed by wip/tiledgen.py) -/
import Derived.Test.YtbpjlancjdbehaaDoorQAnyOp
import Derived.Test.YtbpjlancjdbehaaDoorQEnter
import Derived.Test.YtbpjlancjdbehaaDoorQHashLit
import Derived.Test.YtbpjlancjdbehaaDoorQSeg
import Derived.Test.YtbpjlancjdbehaaDoorQSeq
import Derived.Test.YtbpjlancjdbehaaDoorQTileOf
import Derived.Test.YtbpjlancjdbehaaDoorQTreeSome
import Derived.Deep.DeepCutAuto
import Derived.Maps.RangeWalk
set_option maxRecDepth 100000
namespace Go.Spec
open Go.RowKit
variable {P : Program} {w : World}
/-- a hash loaded, guarded or not -/
theorem wpList_load_hcW {ops : Array Oper} {rest : List Oper} {o : Oper} {a : Act} {Q : Exit → Act → World → Prop} (hw : Region.wanted o (yielded ops a.tmps) = true) (ty : TypeId) (x : Operand) (ho : o.op = .load ty x)
    (ad : Addr) (hx : a.eval x = .pointer (some ad)) (l : List UInt8) (d : TypeDesc) (hc : ∀ j v, (l.map bcell)[j]? = some v → w.cell? (ad.add j) = some v)
    (hu : P.underlying ty = some d) (hd : (match d with | .struct _ | .array _ _ => true | _ => false) = true) (hi : (P.info? ty).map (·.size) = some l.length)
    (h : wpList P ops Q rest (a.put o.dst (hv l)) w) : wpList P ops Q (o :: rest) a w :=
  wpList_want hw fun _ hK => by
    have hr := run_loadVar_agg (P := P) (w := w) ty ad (l.map bcell) d hc hu hd (by simpa using hi)
    unfold Oper.wp execOp
    simp only [ho, hx, Instr.loadAt, Instr.sureAddr, Sem.run_bind, Sem.run_pure, Result.andThen_ok, hr]
    exact hK _ _ h
theorem wpList_build0W {ops : Array Oper} {rest : List Oper} {o : Oper} {a : Act} {Q : Exit → Act → World → Prop} (hw : Region.wanted o (yielded ops a.tmps) = true) (t : TypeId) (ho : o.op = .build t #[]) (v : Value)
    (hr : (Instr.build t #[]).run P w = .ok v w) (h : wpList P ops Q rest (a.put o.dst v) w) : wpList P ops Q (o :: rest) a w :=
  wpList_want hw fun _ hK => by
    unfold Oper.wp execOp
    simp only [ho, List.map_toArray, List.map_nil, Sem.run_bind, Sem.run_pure, Result.andThen_ok, hr]
    exact hK _ _ h
theorem YieldsW.build0 {ops : Array Oper} {C : World → Prop} {oi : Oper} {a : Act} (hw : Region.wanted oi (yielded ops a.tmps) = true) (t : TypeId) (ho : oi.op = .build t #[]) (v : Value) (hr : ∀ w', (Instr.build t #[]).run P w' = .ok v w') : YieldsW P ops C oi v a :=
  .inl ⟨hw, fun w' _ => by
    unfold execOp
    simp only [ho, List.map_toArray, List.map_nil, Sem.run_bind, Sem.run_pure, Result.andThen_ok, hr]⟩
end Go.Spec
namespace Go.Proofs.YtbpjlancjdbehaaDoor
open Go.RowKit Go.Spec
/-- tiles, the tables, blocks of hashes and slices of hashes that live on -/
structure Liv (w : World) (g tb : Nat) (L : List (List UInt8)) (bs : List (Nat × List UInt8)) (ss : List (Value × List (List UInt8))) : Prop where
  ti : TilesAt w g tb L
  sh : ShaG w
  b : ∀ q ∈ bs, Blk w q.1 (hc q.2) 29
  s : ∀ q ∈ ss, SlAt w 32 q.1 (hcs q.2)
theorem Liv.later {w w' : World} {g tb : Nat} {L : List (List UInt8)} {bs : List (Nat × List UInt8)} {ss : List (Value × List (List UInt8))} (h : Liv w g tb L bs ss) (hb : Below w.heap.size w w') : Liv w' g tb L bs ss :=
  ⟨h.ti.later hb, h.sh.later hb, fun q hq => (h.b q hq).later hb, fun q hq => (h.s q hq).below hb (Nat.le_refl _)⟩
theorem Liv.addS {w : World} {g tb : Nat} {L : List (List UInt8)} {bs : List (Nat × List UInt8)} {ss : List (Value × List (List UInt8))} (h : Liv w g tb L bs ss) {v : Value} {hs : List (List UInt8)} (hv : SlAt w 32 v (hcs hs)) : Liv w g tb L bs ((v, hs) :: ss) :=
  ⟨h.ti, h.sh, h.b, fun q hq => by
    rcases List.mem_cons.1 hq with rfl | hq
    · exact hv
    · exact h.s q hq⟩
theorem Liv.addB {w : World} {g tb : Nat} {L : List (List UInt8)} {bs : List (Nat × List UInt8)} {ss : List (Value × List (List UInt8))} (h : Liv w g tb L bs ss) {k : Nat} {x : List UInt8} (hk : Blk w k (hc x) 29) : Liv w g tb L ((k, x) :: bs) ss :=
  ⟨h.ti, h.sh, fun q hq => by
    rcases List.mem_cons.1 hq with rfl | hq
    · exact hk
    · exact h.b q hq, h.s⟩
theorem Liv.new {w : World} {g tb : Nat} {L : List (List UInt8)} {bs : List (Nat × List UInt8)} {ss : List (Value × List (List UInt8))} (h : Liv w g tb L bs ss) (x : List UInt8) : Liv (w.alloc (.cells (hc x) 29)) g tb L ((w.heap.size, x) :: bs) ss :=
  (h.later ((Below.refl _ w).alloc (Nat.le_refl _) _)).addB (Blk.new _ _ _)
theorem Liv.cells {w : World} {g tb : Nat} {L : List (List UInt8)} {bs : List (Nat × List UInt8)} {ss : List (Value × List (List UInt8))} (h : Liv w g tb L bs ss) {k : Nat} {x : List UInt8} (hq : (k, x) ∈ bs) :
    ∀ w', Below w.heap.size w w' → ∀ j u, (x.map bcell)[j]? = some u → w'.cell? ((⟨k, 0, none⟩ : Addr).add j) = some u :=
  fun _ hw' j u hj => ((h.b _ hq).later hw').cells j u (by rw [hc_toList]; exact hj)
theorem Liv.elem {w : World} {g tb : Nat} {L : List (List UInt8)} {bs : List (Nat × List UInt8)} {ss : List (Value × List (List UInt8))} (h : Liv w g tb L bs ss) {b o n cap : Nat} {hs : List (List UInt8)} (hq : (.slice (some ⟨b, o, none⟩) n cap, hs) ∈ ss) (i : Nat) (x : List UInt8) (hx : hs[i]? = some x) :
    ∀ w', Below w.heap.size w w' → ∀ j u, (x.map bcell)[j]? = some u → w'.cell? ((⟨b, o + i * 32, none⟩ : Addr).add j) = some u := fun w' hw' => by
  obtain ⟨b', o', e1, _, _, h3⟩ := ((h.s _ hq).below hw' (Nat.le_refl _)).at (i := i) (cs := x.map bcell) (by unfold hcs; rw [List.getElem?_map, hx]; rfl)
  injection e1 with e1
  injection e1 with e2 e3
  subst e2; subst e3
  exact h3
theorem tiled_facts : tileZ (someL 6 5) 1 1 = some (nodeL (someH 6 2) (someH 6 3)) ∧ tileZ (someL 6 5) 1 2 = none ∧ tileZ (someL 6 5) 2 0 = some (nodeL (nodeL (someH 6 0) (someH 6 1)) (nodeL (someH 6 2) (someH 6 3))) ∧ trootX (someL 6 5) 3 = nodeL (nodeL (someH 6 0) (someH 6 1)) (someH 6 2) ∧ tpathX (someL 6 5) 2 5 = [someH 6 3, nodeL (someH 6 0) (someH 6 1), someH 6 4] ∧ tproofX (someL 6 5) 3 5 = [someH 6 2, someH 6 3, nodeL (someH 6 0) (someH 6 1), someH 6 4] ∧ (nodeL (someH 6 0) (someH 6 1) == zero32) = false := by decide +kernel
theorem tiled_nums : withE (someL 6 5) 3 = 0 ∧ tpathE (someL 6 5) 2 5 = 0 ∧ tproofE (someL 6 5) 3 5 = 0 ∧ tpathE (someL 6 5) 2 6 = 82 ∧ tpathE (someL 6 5) 3 3 = 82 ∧ tpathX (someL 6 5) 2 6 = [] ∧ tpathX (someL 6 5) 3 3 = [] := by decide +kernel
set_option maxHeartbeats 40000000 in
theorem tiled_any (w : World) (hG : ShaG w) :
    Calls Tryd.prog 10 #[] w fun e w' => e = .returned (.bool true) ∧ Below w.heap.size w w' := by
  have HG := hid hG; clear hG
  obtain ⟨f1, f2, f3, f4, f5, f6, f7⟩ := tiled_facts
  obtain ⟨n1, n2, n3, n4, n5, n6, n7⟩ := tiled_nums
  have HL5 := hid (show someL 6 5 = [someH 6 0, someH 6 1, someH 6 2, someH 6 3, someH 6 4] by rfl)
  have HL5l := hid (someL_len 6 5)
  have SM := hid (some_sl 6 5 w (by decide))
  have hs3 := Tryd.sizeHash
  have hs5 := Tryd.sizeU8
  have hge := Tryd.guardHash3
  have hl0 := someH_len 6 0
  have hl1 := someH_len 6 1
  have hl2 := someH_len 6 2
  have hl3 := someH_len 6 3
  have hl4 := someH_len 6 4
  have hAB := nodeL_len (someH 6 0) (someH 6 1)
  have hCD := nodeL_len (someH 6 2) (someH 6 3)
  have hR4 := nodeL_len (nodeL (someH 6 0) (someH 6 1)) (nodeL (someH 6 2) (someH 6 3))
  have hR3 := nodeL_len (nodeL (someH 6 0) (someH 6 1)) (someH 6 2)
  have N1 := hid (fun w0 h0 => node_any (someH 6 0) (someH 6 1) w0 hl0 hl1 h0)
  have N2 := hid (fun w0 h0 => node_any (someH 6 2) (someH 6 3) w0 hl2 hl3 h0)
  have N3 := hid (fun w0 h0 => node_any (nodeL (someH 6 0) (someH 6 1)) (nodeL (someH 6 2) (someH 6 3)) w0 hAB hCD h0)
  have N4 := hid (fun w0 h0 => node_any (nodeL (someH 6 0) (someH 6 1)) (someH 6 2) w0 hAB hl2 h0)
  have OF := hid (fun v w0 h0 h1 => of_any v (someL 6 5) w0 (by decide) h0 h1)
  have T11 := hid (fun g b w0 h0 => tnode_any g b (someL 6 5) 1 1 w0 h0 (by unfold inI; omega) (by unfold inI; omega))
  have T12 := hid (fun g b w0 h0 => tnode_any g b (someL 6 5) 1 2 w0 h0 (by unfold inI; omega) (by unfold inI; omega))
  have T20 := hid (fun g b w0 h0 => tnode_any g b (someL 6 5) 2 0 w0 h0 (by unfold inI; omega) (by unfold inI; omega))
  have R3 := hid (fun g b w0 h0 h1 => troott_any g b (someL 6 5) 3 w0 h0 h1)
  have P25 := hid (fun g b w0 h0 h1 => tpath_any g b (someL 6 5) 2 5 w0 h0 h1)
  have Q35 := hid (fun g b w0 h0 h1 => tproof_any g b (someL 6 5) 3 5 w0 h0 h1)
  have P26 := hid (fun g b w0 h0 h1 => tpath_any g b (someL 6 5) 2 6 w0 h0 h1)
  have P33 := hid (fun g b w0 h0 h1 => tpath_any g b (someL 6 5) 3 3 w0 h0 h1)
  rw [f1] at T11
  rw [f2] at T12
  rw [f3] at T20
  rw [f4, n1] at R3
  rw [f5, n2] at P25
  rw [f6, n3] at Q35
  rw [n4, n6] at P26
  rw [n5, n7] at P33
  simp only [Option.getD_some, Option.getD_none, Option.isSome_some, Option.isSome_none] at T11 T12 T20
  clear f1 f2 f3 f4 f5 f6 n1 n2 n3 n4 n5 n6 n7
  generalize nodeL (nodeL (someH 6 0) (someH 6 1)) (nodeL (someH 6 2) (someH 6 3)) = CC at *
  generalize nodeL (nodeL (someH 6 0) (someH 6 1)) (someH 6 2) = DD at *
  generalize nodeL (someH 6 0) (someH 6 1) = AB at *
  generalize nodeL (someH 6 2) (someH 6 3) = CD at *
  generalize someL 6 5 = L5 at *
  generalize someH 6 0 = A0 at *
  generalize someH 6 1 = A1 at *
  generalize someH 6 2 = A2 at *
  generalize someH 6 3 = A3 at *
  generalize someH 6 4 = A4 at *
  have S0 := hid (show (Tryd.prog.info? 29).map (·.size) = some A0.length by rw [hl0]; exact Tryd.sizeHash)
  have S1 := hid (show (Tryd.prog.info? 29).map (·.size) = some A1.length by rw [hl1]; exact Tryd.sizeHash)
  have S2 := hid (show (Tryd.prog.info? 29).map (·.size) = some A2.length by rw [hl2]; exact Tryd.sizeHash)
  have S3 := hid (show (Tryd.prog.info? 29).map (·.size) = some A3.length by rw [hl3]; exact Tryd.sizeHash)
  have S4 := hid (show (Tryd.prog.info? 29).map (·.size) = some A4.length by rw [hl4]; exact Tryd.sizeHash)
  have SAB := hid (show (Tryd.prog.info? 29).map (·.size) = some AB.length by rw [hAB]; exact Tryd.sizeHash)
  have SCD := hid (show (Tryd.prog.info? 29).map (·.size) = some CD.length by rw [hCD]; exact Tryd.sizeHash)
  have SCC := hid (show (Tryd.prog.info? 29).map (·.size) = some CC.length by rw [hR4]; exact Tryd.sizeHash)
  have SDD := hid (show (Tryd.prog.info? 29).map (·.size) = some DD.length by rw [hR3]; exact Tryd.sizeHash)
  go_enter Tryd.func10, Tryd.ntmps10
  go_wp2_with fail
  refine SM.out.mono ?_
  rintro e w1 ⟨v, rfl, hS, hb1⟩
  obtain ⟨a, cap, rfl, hcap⟩ := hS.formH
  rw [HL5l.out] at hS hcap ⊢
  obtain ⟨b, o, rfl, hblt⟩ := hS.addr (by rw [hcs_length, HL5l.out]; decide)
  have HS1 := hid hS; have HB1 := hid hb1
  clear hS hb1 SM
  go_wp2_with fail
  refine (OF.out _ _ HS1.out (HG.out.later HB1.out)).mono ?_
  rintro e w2 ⟨⟨g, tb, rfl, hT2, hg2, htb2⟩, hb2⟩
  have HB2 := hid (bth HB1.out hb2)
  have Hl2 := hid (show Liv w2 g tb L5 [] [(.slice (some ⟨b, o, none⟩) 5 cap, L5)] from ⟨hT2, HG.out.later HB2.out, by simp, fun q hq => by rw [List.mem_singleton.1 hq]; exact HS1.out.below hb2 (Nat.le_refl _)⟩)
  clear hT2 hg2 htb2 hb2 HS1 HB1 OF hblt
  go_upto_region 5 with fail
  go_cut [4, 5] (fun p4 p5 wx => ∃ ga gc, p4 = .pointer (some ⟨ga, 0, none⟩) ∧ p5 = .pointer (some ⟨gc, 0, none⟩) ∧ Liv wx g tb L5 [(ga, AB), (gc, CD)] [(.slice (some ⟨b, o, none⟩) 5 cap, L5)] ∧ Below w2.heap.size w2 wx)
  case first =>
    have Hcells := hid (show ∀ i x, L5[i]? = some x → ∀ w', Below w2.heap.size w2 w' → ∀ j u, (x.map bcell)[j]? = some u → w'.cell? ((⟨b, o + i * 32, none⟩ : Addr).add j) = some u from fun i x hx w' hw' => by
      obtain ⟨b', o', e1, _, _, h3⟩ := ((Hl2.out.s _ (List.mem_singleton.2 rfl)).below hw' (Nat.le_refl _)).at (i := i) (cs := x.map bcell) (by unfold hcs; rw [List.getElem?_map, hx]; rfl)
      injection e1 with e1
      injection e1 with e2 e3
      subst e2; subst e3
      exact h3)
    have C0 := hid (Hcells.out 0 A0 (by rw [HL5.out]; rfl))
    have C1 := hid (Hcells.out 1 A1 (by rw [HL5.out]; rfl))
    have C2 := hid (Hcells.out 2 A2 (by rw [HL5.out]; rfl))
    have C3 := hid (Hcells.out 3 A3 (by rw [HL5.out]; rfl))
    rw [show o + 0 * 32 = o by omega] at C0
    rw [show o + 1 * 32 = o + 32 by omega] at C1
    rw [show o + 2 * 32 = o + 64 by omega] at C2
    rw [show o + 3 * 32 = o + 96 by omega] at C3
    clear Hcells
    refine wp_region_anyC (by kernel_rfl) ?_
    intro x0 he0 hb0
    have Hc0 := hid hb0
    clear he0 hb0
    show wpAnyC _ _ _ _ _ 18 (Array.replicate 18 false) _ _
    refine wpAnyC_take (i := 0) (v := .slice (some ⟨b, o, none⟩) 5 cap) rfl (by kernel_rfl) (by kernel_rfl) (by kernel_rfl) (fun _ _ _ h => h) (Or.inl ⟨by rfl, ?_⟩) ?_
    · intro w _
      go_simp
      try exact IntWalk.i64_in _ (by omega)
      try omega
    (first | dsimp only [List.getElem_toArray, List.getElem_cons_succ, List.getElem_cons_zero] | dsimp (maxSteps := 10000000) only [List.getElem_toArray, List.getElem_cons_succ, List.getElem_cons_zero] | skip); (first | go_frame | simp (maxSteps := 10000000) only [Act.put, List.setIfInBounds_toArray, List.set_cons_succ, List.set_cons_zero] | skip)
    refine wpAnyC_take (i := 1) (v := .pointer (some ⟨b, o, none⟩)) rfl (by kernel_rfl) (by kernel_rfl) (by kernel_rfl) (fun _ _ _ h => h) (Or.inl ⟨by rfl, ?_⟩) ?_
    · intro w _
      go_simp
      try exact IntWalk.i64_in _ (by omega)
      try omega
    (first | dsimp only [List.getElem_toArray, List.getElem_cons_succ, List.getElem_cons_zero] | dsimp (maxSteps := 10000000) only [List.getElem_toArray, List.getElem_cons_succ, List.getElem_cons_zero] | skip); (first | go_frame | simp (maxSteps := 10000000) only [Act.put, List.setIfInBounds_toArray, List.set_cons_succ, List.set_cons_zero] | skip)
    refine wpAnyC_take (i := 2) (v := hv A0) rfl (by kernel_rfl) (by kernel_rfl) (by kernel_rfl) (fun _ _ _ h => h) (YieldsW.load_hc (by rfl) 29 _ rfl ⟨b, o, none⟩ rfl A0 _ C0.out Tryd.underlying29 rfl S0.out) ?_
    (first | dsimp only [List.getElem_toArray, List.getElem_cons_succ, List.getElem_cons_zero] | dsimp (maxSteps := 10000000) only [List.getElem_toArray, List.getElem_cons_succ, List.getElem_cons_zero] | skip); (first | go_frame | simp (maxSteps := 10000000) only [Act.put, List.setIfInBounds_toArray, List.set_cons_succ, List.set_cons_zero] | skip)
    refine wpAnyC_take (i := 3) (v := .slice (some ⟨b, o, none⟩) 5 cap) rfl (by kernel_rfl) (by kernel_rfl) (by kernel_rfl) (fun _ _ _ h => h) (Or.inl ⟨by rfl, ?_⟩) ?_
    · intro w _
      go_simp
      try exact IntWalk.i64_in _ (by omega)
      try omega
    (first | dsimp only [List.getElem_toArray, List.getElem_cons_succ, List.getElem_cons_zero] | dsimp (maxSteps := 10000000) only [List.getElem_toArray, List.getElem_cons_succ, List.getElem_cons_zero] | skip); (first | go_frame | simp (maxSteps := 10000000) only [Act.put, List.setIfInBounds_toArray, List.set_cons_succ, List.set_cons_zero] | skip)
    refine wpAnyC_take (i := 4) (v := .pointer (some ⟨b, o + 32, none⟩)) rfl (by kernel_rfl) (by kernel_rfl) (by kernel_rfl) (fun _ _ _ h => h) (Or.inl ⟨by rfl, ?_⟩) ?_
    · intro w _
      go_simp
      try exact IntWalk.i64_in _ (by omega)
      try omega
    (first | dsimp only [List.getElem_toArray, List.getElem_cons_succ, List.getElem_cons_zero] | dsimp (maxSteps := 10000000) only [List.getElem_toArray, List.getElem_cons_succ, List.getElem_cons_zero] | skip); (first | go_frame | simp (maxSteps := 10000000) only [Act.put, List.setIfInBounds_toArray, List.set_cons_succ, List.set_cons_zero] | skip)
    refine wpAnyC_take (i := 5) (v := hv A1) rfl (by kernel_rfl) (by kernel_rfl) (by kernel_rfl) (fun _ _ _ h => h) (YieldsW.load_hc (by rfl) 29 _ rfl ⟨b, o + 32, none⟩ rfl A1 _ C1.out Tryd.underlying29 rfl S1.out) ?_
    (first | dsimp only [List.getElem_toArray, List.getElem_cons_succ, List.getElem_cons_zero] | dsimp (maxSteps := 10000000) only [List.getElem_toArray, List.getElem_cons_succ, List.getElem_cons_zero] | skip); (first | go_frame | simp (maxSteps := 10000000) only [Act.put, List.setIfInBounds_toArray, List.set_cons_succ, List.set_cons_zero] | skip)
    refine wpAnyC_take (i := 7) (v := .slice (some ⟨b, o, none⟩) 5 cap) rfl (by kernel_rfl) (by kernel_rfl) (by kernel_rfl) (fun _ _ _ h => h) (Or.inl ⟨by rfl, ?_⟩) ?_
    · intro w _
      go_simp
      try exact IntWalk.i64_in _ (by omega)
      try omega
    (first | dsimp only [List.getElem_toArray, List.getElem_cons_succ, List.getElem_cons_zero] | dsimp (maxSteps := 10000000) only [List.getElem_toArray, List.getElem_cons_succ, List.getElem_cons_zero] | skip); (first | go_frame | simp (maxSteps := 10000000) only [Act.put, List.setIfInBounds_toArray, List.set_cons_succ, List.set_cons_zero] | skip)
    refine wpAnyC_take (i := 8) (v := .pointer (some ⟨b, o + 64, none⟩)) rfl (by kernel_rfl) (by kernel_rfl) (by kernel_rfl) (fun _ _ _ h => h) (Or.inl ⟨by rfl, ?_⟩) ?_
    · intro w _
      go_simp
      try exact IntWalk.i64_in _ (by omega)
      try omega
    (first | dsimp only [List.getElem_toArray, List.getElem_cons_succ, List.getElem_cons_zero] | dsimp (maxSteps := 10000000) only [List.getElem_toArray, List.getElem_cons_succ, List.getElem_cons_zero] | skip); (first | go_frame | simp (maxSteps := 10000000) only [Act.put, List.setIfInBounds_toArray, List.set_cons_succ, List.set_cons_zero] | skip)
    refine wpAnyC_take (i := 9) (v := hv A2) rfl (by kernel_rfl) (by kernel_rfl) (by kernel_rfl) (fun _ _ _ h => h) (YieldsW.load_hc (by rfl) 29 _ rfl ⟨b, o + 64, none⟩ rfl A2 _ C2.out Tryd.underlying29 rfl S2.out) ?_
    (first | dsimp only [List.getElem_toArray, List.getElem_cons_succ, List.getElem_cons_zero] | dsimp (maxSteps := 10000000) only [List.getElem_toArray, List.getElem_cons_succ, List.getElem_cons_zero] | skip); (first | go_frame | simp (maxSteps := 10000000) only [Act.put, List.setIfInBounds_toArray, List.set_cons_succ, List.set_cons_zero] | skip)
    refine wpAnyC_take (i := 10) (v := .slice (some ⟨b, o, none⟩) 5 cap) rfl (by kernel_rfl) (by kernel_rfl) (by kernel_rfl) (fun _ _ _ h => h) (Or.inl ⟨by rfl, ?_⟩) ?_
    · intro w _
      go_simp
      try exact IntWalk.i64_in _ (by omega)
      try omega
    (first | dsimp only [List.getElem_toArray, List.getElem_cons_succ, List.getElem_cons_zero] | dsimp (maxSteps := 10000000) only [List.getElem_toArray, List.getElem_cons_succ, List.getElem_cons_zero] | skip); (first | go_frame | simp (maxSteps := 10000000) only [Act.put, List.setIfInBounds_toArray, List.set_cons_succ, List.set_cons_zero] | skip)
    refine wpAnyC_take (i := 11) (v := .pointer (some ⟨b, o + 96, none⟩)) rfl (by kernel_rfl) (by kernel_rfl) (by kernel_rfl) (fun _ _ _ h => h) (Or.inl ⟨by rfl, ?_⟩) ?_
    · intro w _
      go_simp
      try exact IntWalk.i64_in _ (by omega)
      try omega
    (first | dsimp only [List.getElem_toArray, List.getElem_cons_succ, List.getElem_cons_zero] | dsimp (maxSteps := 10000000) only [List.getElem_toArray, List.getElem_cons_succ, List.getElem_cons_zero] | skip); (first | go_frame | simp (maxSteps := 10000000) only [Act.put, List.setIfInBounds_toArray, List.set_cons_succ, List.set_cons_zero] | skip)
    refine wpAnyC_take (i := 12) (v := hv A3) rfl (by kernel_rfl) (by kernel_rfl) (by kernel_rfl) (fun _ _ _ h => h) (YieldsW.load_hc (by rfl) 29 _ rfl ⟨b, o + 96, none⟩ rfl A3 _ C3.out Tryd.underlying29 rfl S3.out) ?_
    (first | dsimp only [List.getElem_toArray, List.getElem_cons_succ, List.getElem_cons_zero] | dsimp (maxSteps := 10000000) only [List.getElem_toArray, List.getElem_cons_succ, List.getElem_cons_zero] | skip); (first | go_frame | simp (maxSteps := 10000000) only [Act.put, List.setIfInBounds_toArray, List.set_cons_succ, List.set_cons_zero] | skip)
    clear C0 C1 C2 C3
    refine wpAnyC_all (rs := [6, 14, 15]) (by kernel_rfl) (by simp) Hc0.out ?_
    intro z hz
    rcases (show z = 6 ∨ z = 14 ∨ z = 15 by simpa using hz) with rfl | rfl | rfl
    ·
      refine wpOp_list rfl ?_
      (first | dsimp only [List.getElem_toArray, List.getElem_cons_succ, List.getElem_cons_zero] | dsimp (maxSteps := 10000000) only [List.getElem_toArray, List.getElem_cons_succ, List.getElem_cons_zero] | skip); (first | go_frame | simp (maxSteps := 10000000) only [Act.put, List.setIfInBounds_toArray, List.set_cons_succ, List.set_cons_zero] | skip)
      go_wp2_with (go_at_call 40; refine (N1.out _ (Hl2.out.sh.later Hc0.out)).mono ?_; rintro e x1n ⟨rfl, hbx⟩)
      show wpAnyC _ _ _ _ _ _ _ _ _
      (first | dsimp only [List.getElem_toArray, List.getElem_cons_succ, List.getElem_cons_zero] | dsimp (maxSteps := 10000000) only [List.getElem_toArray, List.getElem_cons_succ, List.getElem_cons_zero] | skip); (first | go_frame | simp (maxSteps := 10000000) only [Act.put, List.setIfInBounds_toArray, List.set_cons_succ, List.set_cons_zero] | skip)
      have Hc1n := hid (bth Hc0.out hbx)
      clear hbx
      refine wpAnyC_all (rs := [13, 14, 15]) (by kernel_rfl) (by simp) Hc1n.out ?_
      intro z hz
      rcases (show z = 13 ∨ z = 14 ∨ z = 15 by simpa using hz) with rfl | rfl | rfl
      ·
        refine wpOp_list rfl ?_
        (first | dsimp only [List.getElem_toArray, List.getElem_cons_succ, List.getElem_cons_zero] | dsimp (maxSteps := 10000000) only [List.getElem_toArray, List.getElem_cons_succ, List.getElem_cons_zero] | skip); (first | go_frame | simp (maxSteps := 10000000) only [Act.put, List.setIfInBounds_toArray, List.set_cons_succ, List.set_cons_zero] | skip)
        go_wp2_with (go_at_call 40; refine (N2.out _ (Hl2.out.sh.later Hc1n.out)).mono ?_; rintro e x2n ⟨rfl, hbx⟩)
        show wpAnyC _ _ _ _ _ _ _ _ _
        (first | dsimp only [List.getElem_toArray, List.getElem_cons_succ, List.getElem_cons_zero] | dsimp (maxSteps := 10000000) only [List.getElem_toArray, List.getElem_cons_succ, List.getElem_cons_zero] | skip); (first | go_frame | simp (maxSteps := 10000000) only [Act.put, List.setIfInBounds_toArray, List.set_cons_succ, List.set_cons_zero] | skip)
        have Hc2n := hid (bth Hc1n.out hbx)
        clear hbx
        refine wpAnyC_all (rs := [14, 15]) (by kernel_rfl) (by simp) Hc2n.out ?_
        intro z hz
        rcases (show z = 14 ∨ z = 15 by simpa using hz) with rfl | rfl
        ·
          refine wpOp_list rfl ?_
          (first | dsimp only [List.getElem_toArray, List.getElem_cons_succ, List.getElem_cons_zero] | dsimp (maxSteps := 10000000) only [List.getElem_toArray, List.getElem_cons_succ, List.getElem_cons_zero] | skip); (first | go_frame | simp (maxSteps := 10000000) only [Act.put, List.setIfInBounds_toArray, List.set_cons_succ, List.set_cons_zero] | skip)
          go_wp2_with fail
          show wpAnyC _ _ _ _ _ _ _ _ (x2n.alloc (.cells (hc zero32) 29))
          (first | dsimp only [List.getElem_toArray, List.getElem_cons_succ, List.getElem_cons_zero] | dsimp (maxSteps := 10000000) only [List.getElem_toArray, List.getElem_cons_succ, List.getElem_cons_zero] | skip); (first | go_frame | simp (maxSteps := 10000000) only [Act.put, List.setIfInBounds_toArray, List.set_cons_succ, List.set_cons_zero] | skip)
          have Hc3n := hid (Hc2n.out.alloc Hc2n.out.size (.cells (hc zero32) 29))
          have HA3n := hid (Blk.new x2n (hc zero32) 29); have Hga3n := hid Hc2n.out.size
          generalize hgen : x2n.alloc (.cells (hc zero32) 29) = x3n at *
          clear hgen
          refine wpAnyC_forced (i := 15) (by kernel_rfl) rfl (Hc3n.out) ?_
          (first | dsimp only [List.getElem_toArray, List.getElem_cons_succ, List.getElem_cons_zero] | dsimp (maxSteps := 10000000) only [List.getElem_toArray, List.getElem_cons_succ, List.getElem_cons_zero] | skip); (first | go_frame | simp (maxSteps := 10000000) only [Act.put, List.setIfInBounds_toArray, List.set_cons_succ, List.set_cons_zero] | skip)
          go_wp2_with fail
          show wpAnyC _ _ _ _ _ _ _ _ (x3n.alloc (.cells (hc zero32) 29))
          (first | dsimp only [List.getElem_toArray, List.getElem_cons_succ, List.getElem_cons_zero] | dsimp (maxSteps := 10000000) only [List.getElem_toArray, List.getElem_cons_succ, List.getElem_cons_zero] | skip); (first | go_frame | simp (maxSteps := 10000000) only [Act.put, List.setIfInBounds_toArray, List.set_cons_succ, List.set_cons_zero] | skip)
          have Hc4n := hid (Hc3n.out.alloc Hc3n.out.size (.cells (hc zero32) 29))
          have HC4n := hid (Blk.new x3n (hc zero32) 29); have Hgc4n := hid Hc3n.out.size
          have HA4n := hid (HA3n.out.alloc (.cells (hc zero32) 29)); have Hga4n := Hga3n
          have Hne4n := hid (show x2n.heap.size ≠ x3n.heap.size from by have := HA3n.out.lt; omega)
          generalize hgen : x3n.alloc (.cells (hc zero32) 29) = x4n at *
          clear hgen
          refine wpAnyC_forced (i := 16) (by kernel_rfl) rfl (Hc4n.out) ?_
          (first | dsimp only [List.getElem_toArray, List.getElem_cons_succ, List.getElem_cons_zero] | dsimp (maxSteps := 10000000) only [List.getElem_toArray, List.getElem_cons_succ, List.getElem_cons_zero] | skip); (first | go_frame | simp (maxSteps := 10000000) only [Act.put, List.setIfInBounds_toArray, List.set_cons_succ, List.set_cons_zero] | skip)
          refine wpList_store_blk rfl 29 _ _ rfl x2n.heap.size rfl (hc AB) rfl _ _ HA4n.out (by rw [hc_size, hAB]; rfl) (by rw [hc_size]; exact SAB.out) (hc_row_one _) ?_
          refine wpList_nil ?_
          show wpAnyC _ _ _ _ _ _ _ _ _
          (first | dsimp only [List.getElem_toArray, List.getElem_cons_succ, List.getElem_cons_zero] | dsimp (maxSteps := 10000000) only [List.getElem_toArray, List.getElem_cons_succ, List.getElem_cons_zero] | skip); (first | go_frame | simp (maxSteps := 10000000) only [Act.put, List.setIfInBounds_toArray, List.set_cons_succ, List.set_cons_zero] | skip)
          have hlt := HA4n.out.lt
          have hlt2 := HC4n.out.lt
          have hne : x2n.heap.size ≠ x3n.heap.size := Hne4n.out
          have HcS := hid (Hc4n.out.setRow (g := x2n.heap.size) Hga4n.out (hc AB))
          have HA2 := hid (HA4n.out.setRow (cs' := hc AB))
          have HC2 := hid (HC4n.out.setRow_ne (cs' := hc AB) hne.symm)
          generalize (x4n).setRow x2n.heap.size (hc AB) = y1 at *
          refine wpAnyC_forced (i := 17) (by kernel_rfl) rfl (HcS.out) ?_
          (first | dsimp only [List.getElem_toArray, List.getElem_cons_succ, List.getElem_cons_zero] | dsimp (maxSteps := 10000000) only [List.getElem_toArray, List.getElem_cons_succ, List.getElem_cons_zero] | skip); (first | go_frame | simp (maxSteps := 10000000) only [Act.put, List.setIfInBounds_toArray, List.set_cons_succ, List.set_cons_zero] | skip)
          refine wpList_store_blk rfl 29 _ _ rfl x3n.heap.size rfl (hc CD) rfl _ _ HC2.out (by rw [hc_size, hCD]; rfl) (by rw [hc_size]; exact SCD.out) (hc_row_one _) ?_
          refine wpList_nil ?_
          show wpAnyC _ _ _ _ _ _ _ _ _
          (first | dsimp only [List.getElem_toArray, List.getElem_cons_succ, List.getElem_cons_zero] | dsimp (maxSteps := 10000000) only [List.getElem_toArray, List.getElem_cons_succ, List.getElem_cons_zero] | skip); (first | go_frame | simp (maxSteps := 10000000) only [Act.put, List.setIfInBounds_toArray, List.set_cons_succ, List.set_cons_zero] | skip)
          have HcT := hid (HcS.out.setRow (g := x3n.heap.size) Hgc4n.out (hc CD))
          refine wpAnyC_done (by kernel_rfl) HcT.out ?_ _
          go_wp2_with fail
          go_meet
          exact ⟨_, _, rfl, rfl, ((Hl2.out.later HcT.out).addB (HC2.out.setRow)).addB (HA2.out.setRow_ne hne), HcT.out⟩
        ·
          refine wpOp_list rfl ?_
          (first | dsimp only [List.getElem_toArray, List.getElem_cons_succ, List.getElem_cons_zero] | dsimp (maxSteps := 10000000) only [List.getElem_toArray, List.getElem_cons_succ, List.getElem_cons_zero] | skip); (first | go_frame | simp (maxSteps := 10000000) only [Act.put, List.setIfInBounds_toArray, List.set_cons_succ, List.set_cons_zero] | skip)
          go_wp2_with fail
          show wpAnyC _ _ _ _ _ _ _ _ (x2n.alloc (.cells (hc zero32) 29))
          (first | dsimp only [List.getElem_toArray, List.getElem_cons_succ, List.getElem_cons_zero] | dsimp (maxSteps := 10000000) only [List.getElem_toArray, List.getElem_cons_succ, List.getElem_cons_zero] | skip); (first | go_frame | simp (maxSteps := 10000000) only [Act.put, List.setIfInBounds_toArray, List.set_cons_succ, List.set_cons_zero] | skip)
          have Hc6n := hid (Hc2n.out.alloc Hc2n.out.size (.cells (hc zero32) 29))
          have HC6n := hid (Blk.new x2n (hc zero32) 29); have Hgc6n := hid Hc2n.out.size
          generalize hgen : x2n.alloc (.cells (hc zero32) 29) = x6n at *
          clear hgen
          refine wpAnyC_forced (i := 14) (by kernel_rfl) rfl (Hc6n.out) ?_
          (first | dsimp only [List.getElem_toArray, List.getElem_cons_succ, List.getElem_cons_zero] | dsimp (maxSteps := 10000000) only [List.getElem_toArray, List.getElem_cons_succ, List.getElem_cons_zero] | skip); (first | go_frame | simp (maxSteps := 10000000) only [Act.put, List.setIfInBounds_toArray, List.set_cons_succ, List.set_cons_zero] | skip)
          go_wp2_with fail
          show wpAnyC _ _ _ _ _ _ _ _ (x6n.alloc (.cells (hc zero32) 29))
          (first | dsimp only [List.getElem_toArray, List.getElem_cons_succ, List.getElem_cons_zero] | dsimp (maxSteps := 10000000) only [List.getElem_toArray, List.getElem_cons_succ, List.getElem_cons_zero] | skip); (first | go_frame | simp (maxSteps := 10000000) only [Act.put, List.setIfInBounds_toArray, List.set_cons_succ, List.set_cons_zero] | skip)
          have Hc7n := hid (Hc6n.out.alloc Hc6n.out.size (.cells (hc zero32) 29))
          have HA7n := hid (Blk.new x6n (hc zero32) 29); have Hga7n := hid Hc6n.out.size
          have HC7n := hid (HC6n.out.alloc (.cells (hc zero32) 29)); have Hgc7n := Hgc6n
          have Hne7n := hid (show x6n.heap.size ≠ x2n.heap.size from by have := HC6n.out.lt; omega)
          generalize hgen : x6n.alloc (.cells (hc zero32) 29) = x7n at *
          clear hgen
          refine wpAnyC_forced (i := 16) (by kernel_rfl) rfl (Hc7n.out) ?_
          (first | dsimp only [List.getElem_toArray, List.getElem_cons_succ, List.getElem_cons_zero] | dsimp (maxSteps := 10000000) only [List.getElem_toArray, List.getElem_cons_succ, List.getElem_cons_zero] | skip); (first | go_frame | simp (maxSteps := 10000000) only [Act.put, List.setIfInBounds_toArray, List.set_cons_succ, List.set_cons_zero] | skip)
          refine wpList_store_blk rfl 29 _ _ rfl x6n.heap.size rfl (hc AB) rfl _ _ HA7n.out (by rw [hc_size, hAB]; rfl) (by rw [hc_size]; exact SAB.out) (hc_row_one _) ?_
          refine wpList_nil ?_
          show wpAnyC _ _ _ _ _ _ _ _ _
          (first | dsimp only [List.getElem_toArray, List.getElem_cons_succ, List.getElem_cons_zero] | dsimp (maxSteps := 10000000) only [List.getElem_toArray, List.getElem_cons_succ, List.getElem_cons_zero] | skip); (first | go_frame | simp (maxSteps := 10000000) only [Act.put, List.setIfInBounds_toArray, List.set_cons_succ, List.set_cons_zero] | skip)
          have hlt := HA7n.out.lt
          have hlt2 := HC7n.out.lt
          have hne : x6n.heap.size ≠ x2n.heap.size := Hne7n.out
          have HcS := hid (Hc7n.out.setRow (g := x6n.heap.size) Hga7n.out (hc AB))
          have HA2 := hid (HA7n.out.setRow (cs' := hc AB))
          have HC2 := hid (HC7n.out.setRow_ne (cs' := hc AB) hne.symm)
          generalize (x7n).setRow x6n.heap.size (hc AB) = y1 at *
          refine wpAnyC_forced (i := 17) (by kernel_rfl) rfl (HcS.out) ?_
          (first | dsimp only [List.getElem_toArray, List.getElem_cons_succ, List.getElem_cons_zero] | dsimp (maxSteps := 10000000) only [List.getElem_toArray, List.getElem_cons_succ, List.getElem_cons_zero] | skip); (first | go_frame | simp (maxSteps := 10000000) only [Act.put, List.setIfInBounds_toArray, List.set_cons_succ, List.set_cons_zero] | skip)
          refine wpList_store_blk rfl 29 _ _ rfl x2n.heap.size rfl (hc CD) rfl _ _ HC2.out (by rw [hc_size, hCD]; rfl) (by rw [hc_size]; exact SCD.out) (hc_row_one _) ?_
          refine wpList_nil ?_
          show wpAnyC _ _ _ _ _ _ _ _ _
          (first | dsimp only [List.getElem_toArray, List.getElem_cons_succ, List.getElem_cons_zero] | dsimp (maxSteps := 10000000) only [List.getElem_toArray, List.getElem_cons_succ, List.getElem_cons_zero] | skip); (first | go_frame | simp (maxSteps := 10000000) only [Act.put, List.setIfInBounds_toArray, List.set_cons_succ, List.set_cons_zero] | skip)
          have HcT := hid (HcS.out.setRow (g := x2n.heap.size) Hgc7n.out (hc CD))
          refine wpAnyC_done (by kernel_rfl) HcT.out ?_ _
          go_wp2_with fail
          go_meet
          exact ⟨_, _, rfl, rfl, ((Hl2.out.later HcT.out).addB (HC2.out.setRow)).addB (HA2.out.setRow_ne hne), HcT.out⟩
      ·
        refine wpOp_list rfl ?_
        (first | dsimp only [List.getElem_toArray, List.getElem_cons_succ, List.getElem_cons_zero] | dsimp (maxSteps := 10000000) only [List.getElem_toArray, List.getElem_cons_succ, List.getElem_cons_zero] | skip); (first | go_frame | simp (maxSteps := 10000000) only [Act.put, List.setIfInBounds_toArray, List.set_cons_succ, List.set_cons_zero] | skip)
        go_wp2_with fail
        show wpAnyC _ _ _ _ _ _ _ _ (x1n.alloc (.cells (hc zero32) 29))
        (first | dsimp only [List.getElem_toArray, List.getElem_cons_succ, List.getElem_cons_zero] | dsimp (maxSteps := 10000000) only [List.getElem_toArray, List.getElem_cons_succ, List.getElem_cons_zero] | skip); (first | go_frame | simp (maxSteps := 10000000) only [Act.put, List.setIfInBounds_toArray, List.set_cons_succ, List.set_cons_zero] | skip)
        have Hc9n := hid (Hc1n.out.alloc Hc1n.out.size (.cells (hc zero32) 29))
        have HA9n := hid (Blk.new x1n (hc zero32) 29); have Hga9n := hid Hc1n.out.size
        generalize hgen : x1n.alloc (.cells (hc zero32) 29) = x9n at *
        clear hgen
        refine wpAnyC_all (rs := [13, 15]) (by kernel_rfl) (by simp) Hc9n.out ?_
        intro z hz
        rcases (show z = 13 ∨ z = 15 by simpa using hz) with rfl | rfl
        ·
          refine wpOp_list rfl ?_
          (first | dsimp only [List.getElem_toArray, List.getElem_cons_succ, List.getElem_cons_zero] | dsimp (maxSteps := 10000000) only [List.getElem_toArray, List.getElem_cons_succ, List.getElem_cons_zero] | skip); (first | go_frame | simp (maxSteps := 10000000) only [Act.put, List.setIfInBounds_toArray, List.set_cons_succ, List.set_cons_zero] | skip)
          go_wp2_with (go_at_call 40; refine (N2.out _ (Hl2.out.sh.later Hc9n.out)).mono ?_; rintro e x10n ⟨rfl, hbx⟩)
          show wpAnyC _ _ _ _ _ _ _ _ _
          (first | dsimp only [List.getElem_toArray, List.getElem_cons_succ, List.getElem_cons_zero] | dsimp (maxSteps := 10000000) only [List.getElem_toArray, List.getElem_cons_succ, List.getElem_cons_zero] | skip); (first | go_frame | simp (maxSteps := 10000000) only [Act.put, List.setIfInBounds_toArray, List.set_cons_succ, List.set_cons_zero] | skip)
          have Hc10n := hid (bth Hc9n.out hbx)
          have HA10n := hid (HA9n.out.later hbx); have Hga10n := Hga9n
          clear hbx
          refine wpAnyC_forced (i := 15) (by kernel_rfl) rfl (Hc10n.out) ?_
          (first | dsimp only [List.getElem_toArray, List.getElem_cons_succ, List.getElem_cons_zero] | dsimp (maxSteps := 10000000) only [List.getElem_toArray, List.getElem_cons_succ, List.getElem_cons_zero] | skip); (first | go_frame | simp (maxSteps := 10000000) only [Act.put, List.setIfInBounds_toArray, List.set_cons_succ, List.set_cons_zero] | skip)
          go_wp2_with fail
          show wpAnyC _ _ _ _ _ _ _ _ (x10n.alloc (.cells (hc zero32) 29))
          (first | dsimp only [List.getElem_toArray, List.getElem_cons_succ, List.getElem_cons_zero] | dsimp (maxSteps := 10000000) only [List.getElem_toArray, List.getElem_cons_succ, List.getElem_cons_zero] | skip); (first | go_frame | simp (maxSteps := 10000000) only [Act.put, List.setIfInBounds_toArray, List.set_cons_succ, List.set_cons_zero] | skip)
          have Hc11n := hid (Hc10n.out.alloc Hc10n.out.size (.cells (hc zero32) 29))
          have HC11n := hid (Blk.new x10n (hc zero32) 29); have Hgc11n := hid Hc10n.out.size
          have HA11n := hid (HA10n.out.alloc (.cells (hc zero32) 29)); have Hga11n := Hga10n
          have Hne11n := hid (show x1n.heap.size ≠ x10n.heap.size from by have := HA10n.out.lt; omega)
          generalize hgen : x10n.alloc (.cells (hc zero32) 29) = x11n at *
          clear hgen
          refine wpAnyC_forced (i := 16) (by kernel_rfl) rfl (Hc11n.out) ?_
          (first | dsimp only [List.getElem_toArray, List.getElem_cons_succ, List.getElem_cons_zero] | dsimp (maxSteps := 10000000) only [List.getElem_toArray, List.getElem_cons_succ, List.getElem_cons_zero] | skip); (first | go_frame | simp (maxSteps := 10000000) only [Act.put, List.setIfInBounds_toArray, List.set_cons_succ, List.set_cons_zero] | skip)
          refine wpList_store_blk rfl 29 _ _ rfl x1n.heap.size rfl (hc AB) rfl _ _ HA11n.out (by rw [hc_size, hAB]; rfl) (by rw [hc_size]; exact SAB.out) (hc_row_one _) ?_
          refine wpList_nil ?_
          show wpAnyC _ _ _ _ _ _ _ _ _
          (first | dsimp only [List.getElem_toArray, List.getElem_cons_succ, List.getElem_cons_zero] | dsimp (maxSteps := 10000000) only [List.getElem_toArray, List.getElem_cons_succ, List.getElem_cons_zero] | skip); (first | go_frame | simp (maxSteps := 10000000) only [Act.put, List.setIfInBounds_toArray, List.set_cons_succ, List.set_cons_zero] | skip)
          have hlt := HA11n.out.lt
          have hlt2 := HC11n.out.lt
          have hne : x1n.heap.size ≠ x10n.heap.size := Hne11n.out
          have HcS := hid (Hc11n.out.setRow (g := x1n.heap.size) Hga11n.out (hc AB))
          have HA2 := hid (HA11n.out.setRow (cs' := hc AB))
          have HC2 := hid (HC11n.out.setRow_ne (cs' := hc AB) hne.symm)
          generalize (x11n).setRow x1n.heap.size (hc AB) = y1 at *
          refine wpAnyC_forced (i := 17) (by kernel_rfl) rfl (HcS.out) ?_
          (first | dsimp only [List.getElem_toArray, List.getElem_cons_succ, List.getElem_cons_zero] | dsimp (maxSteps := 10000000) only [List.getElem_toArray, List.getElem_cons_succ, List.getElem_cons_zero] | skip); (first | go_frame | simp (maxSteps := 10000000) only [Act.put, List.setIfInBounds_toArray, List.set_cons_succ, List.set_cons_zero] | skip)
          refine wpList_store_blk rfl 29 _ _ rfl x10n.heap.size rfl (hc CD) rfl _ _ HC2.out (by rw [hc_size, hCD]; rfl) (by rw [hc_size]; exact SCD.out) (hc_row_one _) ?_
          refine wpList_nil ?_
          show wpAnyC _ _ _ _ _ _ _ _ _
          (first | dsimp only [List.getElem_toArray, List.getElem_cons_succ, List.getElem_cons_zero] | dsimp (maxSteps := 10000000) only [List.getElem_toArray, List.getElem_cons_succ, List.getElem_cons_zero] | skip); (first | go_frame | simp (maxSteps := 10000000) only [Act.put, List.setIfInBounds_toArray, List.set_cons_succ, List.set_cons_zero] | skip)
          have HcT := hid (HcS.out.setRow (g := x10n.heap.size) Hgc11n.out (hc CD))
          refine wpAnyC_done (by kernel_rfl) HcT.out ?_ _
          go_wp2_with fail
          go_meet
          exact ⟨_, _, rfl, rfl, ((Hl2.out.later HcT.out).addB (HC2.out.setRow)).addB (HA2.out.setRow_ne hne), HcT.out⟩
        ·
          refine wpOp_list rfl ?_
          (first | dsimp only [List.getElem_toArray, List.getElem_cons_succ, List.getElem_cons_zero] | dsimp (maxSteps := 10000000) only [List.getElem_toArray, List.getElem_cons_succ, List.getElem_cons_zero] | skip); (first | go_frame | simp (maxSteps := 10000000) only [Act.put, List.setIfInBounds_toArray, List.set_cons_succ, List.set_cons_zero] | skip)
          go_wp2_with fail
          show wpAnyC _ _ _ _ _ _ _ _ (x9n.alloc (.cells (hc zero32) 29))
          (first | dsimp only [List.getElem_toArray, List.getElem_cons_succ, List.getElem_cons_zero] | dsimp (maxSteps := 10000000) only [List.getElem_toArray, List.getElem_cons_succ, List.getElem_cons_zero] | skip); (first | go_frame | simp (maxSteps := 10000000) only [Act.put, List.setIfInBounds_toArray, List.set_cons_succ, List.set_cons_zero] | skip)
          have Hc13n := hid (Hc9n.out.alloc Hc9n.out.size (.cells (hc zero32) 29))
          have HC13n := hid (Blk.new x9n (hc zero32) 29); have Hgc13n := hid Hc9n.out.size
          have HA13n := hid (HA9n.out.alloc (.cells (hc zero32) 29)); have Hga13n := Hga9n
          have Hne13n := hid (show x1n.heap.size ≠ x9n.heap.size from by have := HA9n.out.lt; omega)
          generalize hgen : x9n.alloc (.cells (hc zero32) 29) = x13n at *
          clear hgen
          refine wpAnyC_forced (i := 13) (by kernel_rfl) rfl (Hc13n.out) ?_
          (first | dsimp only [List.getElem_toArray, List.getElem_cons_succ, List.getElem_cons_zero] | dsimp (maxSteps := 10000000) only [List.getElem_toArray, List.getElem_cons_succ, List.getElem_cons_zero] | skip); (first | go_frame | simp (maxSteps := 10000000) only [Act.put, List.setIfInBounds_toArray, List.set_cons_succ, List.set_cons_zero] | skip)
          go_wp2_with (go_at_call 40; refine (N2.out _ (Hl2.out.sh.later Hc13n.out)).mono ?_; rintro e x14n ⟨rfl, hbx⟩)
          show wpAnyC _ _ _ _ _ _ _ _ _
          (first | dsimp only [List.getElem_toArray, List.getElem_cons_succ, List.getElem_cons_zero] | dsimp (maxSteps := 10000000) only [List.getElem_toArray, List.getElem_cons_succ, List.getElem_cons_zero] | skip); (first | go_frame | simp (maxSteps := 10000000) only [Act.put, List.setIfInBounds_toArray, List.set_cons_succ, List.set_cons_zero] | skip)
          have Hc14n := hid (bth Hc13n.out hbx)
          have HA14n := hid (HA13n.out.later hbx); have Hga14n := Hga13n
          have HC14n := hid (HC13n.out.later hbx); have Hgc14n := Hgc13n
          have Hne14n := Hne13n
          clear hbx
          refine wpAnyC_forced (i := 16) (by kernel_rfl) rfl (Hc14n.out) ?_
          (first | dsimp only [List.getElem_toArray, List.getElem_cons_succ, List.getElem_cons_zero] | dsimp (maxSteps := 10000000) only [List.getElem_toArray, List.getElem_cons_succ, List.getElem_cons_zero] | skip); (first | go_frame | simp (maxSteps := 10000000) only [Act.put, List.setIfInBounds_toArray, List.set_cons_succ, List.set_cons_zero] | skip)
          refine wpList_store_blk rfl 29 _ _ rfl x1n.heap.size rfl (hc AB) rfl _ _ HA14n.out (by rw [hc_size, hAB]; rfl) (by rw [hc_size]; exact SAB.out) (hc_row_one _) ?_
          refine wpList_nil ?_
          show wpAnyC _ _ _ _ _ _ _ _ _
          (first | dsimp only [List.getElem_toArray, List.getElem_cons_succ, List.getElem_cons_zero] | dsimp (maxSteps := 10000000) only [List.getElem_toArray, List.getElem_cons_succ, List.getElem_cons_zero] | skip); (first | go_frame | simp (maxSteps := 10000000) only [Act.put, List.setIfInBounds_toArray, List.set_cons_succ, List.set_cons_zero] | skip)
          have hlt := HA14n.out.lt
          have hlt2 := HC14n.out.lt
          have hne : x1n.heap.size ≠ x9n.heap.size := Hne14n.out
          have HcS := hid (Hc14n.out.setRow (g := x1n.heap.size) Hga14n.out (hc AB))
          have HA2 := hid (HA14n.out.setRow (cs' := hc AB))
          have HC2 := hid (HC14n.out.setRow_ne (cs' := hc AB) hne.symm)
          generalize (x14n).setRow x1n.heap.size (hc AB) = y1 at *
          refine wpAnyC_forced (i := 17) (by kernel_rfl) rfl (HcS.out) ?_
          (first | dsimp only [List.getElem_toArray, List.getElem_cons_succ, List.getElem_cons_zero] | dsimp (maxSteps := 10000000) only [List.getElem_toArray, List.getElem_cons_succ, List.getElem_cons_zero] | skip); (first | go_frame | simp (maxSteps := 10000000) only [Act.put, List.setIfInBounds_toArray, List.set_cons_succ, List.set_cons_zero] | skip)
          refine wpList_store_blk rfl 29 _ _ rfl x9n.heap.size rfl (hc CD) rfl _ _ HC2.out (by rw [hc_size, hCD]; rfl) (by rw [hc_size]; exact SCD.out) (hc_row_one _) ?_
          refine wpList_nil ?_
          show wpAnyC _ _ _ _ _ _ _ _ _
          (first | dsimp only [List.getElem_toArray, List.getElem_cons_succ, List.getElem_cons_zero] | dsimp (maxSteps := 10000000) only [List.getElem_toArray, List.getElem_cons_succ, List.getElem_cons_zero] | skip); (first | go_frame | simp (maxSteps := 10000000) only [Act.put, List.setIfInBounds_toArray, List.set_cons_succ, List.set_cons_zero] | skip)
          have HcT := hid (HcS.out.setRow (g := x9n.heap.size) Hgc14n.out (hc CD))
          refine wpAnyC_done (by kernel_rfl) HcT.out ?_ _
          go_wp2_with fail
          go_meet
          exact ⟨_, _, rfl, rfl, ((Hl2.out.later HcT.out).addB (HC2.out.setRow)).addB (HA2.out.setRow_ne hne), HcT.out⟩
      ·
        refine wpOp_list rfl ?_
        (first | dsimp only [List.getElem_toArray, List.getElem_cons_succ, List.getElem_cons_zero] | dsimp (maxSteps := 10000000) only [List.getElem_toArray, List.getElem_cons_succ, List.getElem_cons_zero] | skip); (first | go_frame | simp (maxSteps := 10000000) only [Act.put, List.setIfInBounds_toArray, List.set_cons_succ, List.set_cons_zero] | skip)
        go_wp2_with fail
        show wpAnyC _ _ _ _ _ _ _ _ (x1n.alloc (.cells (hc zero32) 29))
        (first | dsimp only [List.getElem_toArray, List.getElem_cons_succ, List.getElem_cons_zero] | dsimp (maxSteps := 10000000) only [List.getElem_toArray, List.getElem_cons_succ, List.getElem_cons_zero] | skip); (first | go_frame | simp (maxSteps := 10000000) only [Act.put, List.setIfInBounds_toArray, List.set_cons_succ, List.set_cons_zero] | skip)
        have Hc16n := hid (Hc1n.out.alloc Hc1n.out.size (.cells (hc zero32) 29))
        have HC16n := hid (Blk.new x1n (hc zero32) 29); have Hgc16n := hid Hc1n.out.size
        generalize hgen : x1n.alloc (.cells (hc zero32) 29) = x16n at *
        clear hgen
        refine wpAnyC_all (rs := [13, 14]) (by kernel_rfl) (by simp) Hc16n.out ?_
        intro z hz
        rcases (show z = 13 ∨ z = 14 by simpa using hz) with rfl | rfl
        ·
          refine wpOp_list rfl ?_
          (first | dsimp only [List.getElem_toArray, List.getElem_cons_succ, List.getElem_cons_zero] | dsimp (maxSteps := 10000000) only [List.getElem_toArray, List.getElem_cons_succ, List.getElem_cons_zero] | skip); (first | go_frame | simp (maxSteps := 10000000) only [Act.put, List.setIfInBounds_toArray, List.set_cons_succ, List.set_cons_zero] | skip)
          go_wp2_with (go_at_call 40; refine (N2.out _ (Hl2.out.sh.later Hc16n.out)).mono ?_; rintro e x17n ⟨rfl, hbx⟩)
          show wpAnyC _ _ _ _ _ _ _ _ _
          (first | dsimp only [List.getElem_toArray, List.getElem_cons_succ, List.getElem_cons_zero] | dsimp (maxSteps := 10000000) only [List.getElem_toArray, List.getElem_cons_succ, List.getElem_cons_zero] | skip); (first | go_frame | simp (maxSteps := 10000000) only [Act.put, List.setIfInBounds_toArray, List.set_cons_succ, List.set_cons_zero] | skip)
          have Hc17n := hid (bth Hc16n.out hbx)
          have HC17n := hid (HC16n.out.later hbx); have Hgc17n := Hgc16n
          clear hbx
          refine wpAnyC_forced (i := 14) (by kernel_rfl) rfl (Hc17n.out) ?_
          (first | dsimp only [List.getElem_toArray, List.getElem_cons_succ, List.getElem_cons_zero] | dsimp (maxSteps := 10000000) only [List.getElem_toArray, List.getElem_cons_succ, List.getElem_cons_zero] | skip); (first | go_frame | simp (maxSteps := 10000000) only [Act.put, List.setIfInBounds_toArray, List.set_cons_succ, List.set_cons_zero] | skip)
          go_wp2_with fail
          show wpAnyC _ _ _ _ _ _ _ _ (x17n.alloc (.cells (hc zero32) 29))
          (first | dsimp only [List.getElem_toArray, List.getElem_cons_succ, List.getElem_cons_zero] | dsimp (maxSteps := 10000000) only [List.getElem_toArray, List.getElem_cons_succ, List.getElem_cons_zero] | skip); (first | go_frame | simp (maxSteps := 10000000) only [Act.put, List.setIfInBounds_toArray, List.set_cons_succ, List.set_cons_zero] | skip)
          have Hc18n := hid (Hc17n.out.alloc Hc17n.out.size (.cells (hc zero32) 29))
          have HA18n := hid (Blk.new x17n (hc zero32) 29); have Hga18n := hid Hc17n.out.size
          have HC18n := hid (HC17n.out.alloc (.cells (hc zero32) 29)); have Hgc18n := Hgc17n
          have Hne18n := hid (show x17n.heap.size ≠ x1n.heap.size from by have := HC17n.out.lt; omega)
          generalize hgen : x17n.alloc (.cells (hc zero32) 29) = x18n at *
          clear hgen
          refine wpAnyC_forced (i := 16) (by kernel_rfl) rfl (Hc18n.out) ?_
          (first | dsimp only [List.getElem_toArray, List.getElem_cons_succ, List.getElem_cons_zero] | dsimp (maxSteps := 10000000) only [List.getElem_toArray, List.getElem_cons_succ, List.getElem_cons_zero] | skip); (first | go_frame | simp (maxSteps := 10000000) only [Act.put, List.setIfInBounds_toArray, List.set_cons_succ, List.set_cons_zero] | skip)
          refine wpList_store_blk rfl 29 _ _ rfl x17n.heap.size rfl (hc AB) rfl _ _ HA18n.out (by rw [hc_size, hAB]; rfl) (by rw [hc_size]; exact SAB.out) (hc_row_one _) ?_
          refine wpList_nil ?_
          show wpAnyC _ _ _ _ _ _ _ _ _
          (first | dsimp only [List.getElem_toArray, List.getElem_cons_succ, List.getElem_cons_zero] | dsimp (maxSteps := 10000000) only [List.getElem_toArray, List.getElem_cons_succ, List.getElem_cons_zero] | skip); (first | go_frame | simp (maxSteps := 10000000) only [Act.put, List.setIfInBounds_toArray, List.set_cons_succ, List.set_cons_zero] | skip)
          have hlt := HA18n.out.lt
          have hlt2 := HC18n.out.lt
          have hne : x17n.heap.size ≠ x1n.heap.size := Hne18n.out
          have HcS := hid (Hc18n.out.setRow (g := x17n.heap.size) Hga18n.out (hc AB))
          have HA2 := hid (HA18n.out.setRow (cs' := hc AB))
          have HC2 := hid (HC18n.out.setRow_ne (cs' := hc AB) hne.symm)
          generalize (x18n).setRow x17n.heap.size (hc AB) = y1 at *
          refine wpAnyC_forced (i := 17) (by kernel_rfl) rfl (HcS.out) ?_
          (first | dsimp only [List.getElem_toArray, List.getElem_cons_succ, List.getElem_cons_zero] | dsimp (maxSteps := 10000000) only [List.getElem_toArray, List.getElem_cons_succ, List.getElem_cons_zero] | skip); (first | go_frame | simp (maxSteps := 10000000) only [Act.put, List.setIfInBounds_toArray, List.set_cons_succ, List.set_cons_zero] | skip)
          refine wpList_store_blk rfl 29 _ _ rfl x1n.heap.size rfl (hc CD) rfl _ _ HC2.out (by rw [hc_size, hCD]; rfl) (by rw [hc_size]; exact SCD.out) (hc_row_one _) ?_
          refine wpList_nil ?_
          show wpAnyC _ _ _ _ _ _ _ _ _
          (first | dsimp only [List.getElem_toArray, List.getElem_cons_succ, List.getElem_cons_zero] | dsimp (maxSteps := 10000000) only [List.getElem_toArray, List.getElem_cons_succ, List.getElem_cons_zero] | skip); (first | go_frame | simp (maxSteps := 10000000) only [Act.put, List.setIfInBounds_toArray, List.set_cons_succ, List.set_cons_zero] | skip)
          have HcT := hid (HcS.out.setRow (g := x1n.heap.size) Hgc18n.out (hc CD))
          refine wpAnyC_done (by kernel_rfl) HcT.out ?_ _
          go_wp2_with fail
          go_meet
          exact ⟨_, _, rfl, rfl, ((Hl2.out.later HcT.out).addB (HC2.out.setRow)).addB (HA2.out.setRow_ne hne), HcT.out⟩
        ·
          refine wpOp_list rfl ?_
          (first | dsimp only [List.getElem_toArray, List.getElem_cons_succ, List.getElem_cons_zero] | dsimp (maxSteps := 10000000) only [List.getElem_toArray, List.getElem_cons_succ, List.getElem_cons_zero] | skip); (first | go_frame | simp (maxSteps := 10000000) only [Act.put, List.setIfInBounds_toArray, List.set_cons_succ, List.set_cons_zero] | skip)
          go_wp2_with fail
          show wpAnyC _ _ _ _ _ _ _ _ (x16n.alloc (.cells (hc zero32) 29))
          (first | dsimp only [List.getElem_toArray, List.getElem_cons_succ, List.getElem_cons_zero] | dsimp (maxSteps := 10000000) only [List.getElem_toArray, List.getElem_cons_succ, List.getElem_cons_zero] | skip); (first | go_frame | simp (maxSteps := 10000000) only [Act.put, List.setIfInBounds_toArray, List.set_cons_succ, List.set_cons_zero] | skip)
          have Hc20n := hid (Hc16n.out.alloc Hc16n.out.size (.cells (hc zero32) 29))
          have HA20n := hid (Blk.new x16n (hc zero32) 29); have Hga20n := hid Hc16n.out.size
          have HC20n := hid (HC16n.out.alloc (.cells (hc zero32) 29)); have Hgc20n := Hgc16n
          have Hne20n := hid (show x16n.heap.size ≠ x1n.heap.size from by have := HC16n.out.lt; omega)
          generalize hgen : x16n.alloc (.cells (hc zero32) 29) = x20n at *
          clear hgen
          refine wpAnyC_forced (i := 13) (by kernel_rfl) rfl (Hc20n.out) ?_
          (first | dsimp only [List.getElem_toArray, List.getElem_cons_succ, List.getElem_cons_zero] | dsimp (maxSteps := 10000000) only [List.getElem_toArray, List.getElem_cons_succ, List.getElem_cons_zero] | skip); (first | go_frame | simp (maxSteps := 10000000) only [Act.put, List.setIfInBounds_toArray, List.set_cons_succ, List.set_cons_zero] | skip)
          go_wp2_with (go_at_call 40; refine (N2.out _ (Hl2.out.sh.later Hc20n.out)).mono ?_; rintro e x21n ⟨rfl, hbx⟩)
          show wpAnyC _ _ _ _ _ _ _ _ _
          (first | dsimp only [List.getElem_toArray, List.getElem_cons_succ, List.getElem_cons_zero] | dsimp (maxSteps := 10000000) only [List.getElem_toArray, List.getElem_cons_succ, List.getElem_cons_zero] | skip); (first | go_frame | simp (maxSteps := 10000000) only [Act.put, List.setIfInBounds_toArray, List.set_cons_succ, List.set_cons_zero] | skip)
          have Hc21n := hid (bth Hc20n.out hbx)
          have HA21n := hid (HA20n.out.later hbx); have Hga21n := Hga20n
          have HC21n := hid (HC20n.out.later hbx); have Hgc21n := Hgc20n
          have Hne21n := Hne20n
          clear hbx
          refine wpAnyC_forced (i := 16) (by kernel_rfl) rfl (Hc21n.out) ?_
          (first | dsimp only [List.getElem_toArray, List.getElem_cons_succ, List.getElem_cons_zero] | dsimp (maxSteps := 10000000) only [List.getElem_toArray, List.getElem_cons_succ, List.getElem_cons_zero] | skip); (first | go_frame | simp (maxSteps := 10000000) only [Act.put, List.setIfInBounds_toArray, List.set_cons_succ, List.set_cons_zero] | skip)
          refine wpList_store_blk rfl 29 _ _ rfl x16n.heap.size rfl (hc AB) rfl _ _ HA21n.out (by rw [hc_size, hAB]; rfl) (by rw [hc_size]; exact SAB.out) (hc_row_one _) ?_
          refine wpList_nil ?_
          show wpAnyC _ _ _ _ _ _ _ _ _
          (first | dsimp only [List.getElem_toArray, List.getElem_cons_succ, List.getElem_cons_zero] | dsimp (maxSteps := 10000000) only [List.getElem_toArray, List.getElem_cons_succ, List.getElem_cons_zero] | skip); (first | go_frame | simp (maxSteps := 10000000) only [Act.put, List.setIfInBounds_toArray, List.set_cons_succ, List.set_cons_zero] | skip)
          have hlt := HA21n.out.lt
          have hlt2 := HC21n.out.lt
          have hne : x16n.heap.size ≠ x1n.heap.size := Hne21n.out
          have HcS := hid (Hc21n.out.setRow (g := x16n.heap.size) Hga21n.out (hc AB))
          have HA2 := hid (HA21n.out.setRow (cs' := hc AB))
          have HC2 := hid (HC21n.out.setRow_ne (cs' := hc AB) hne.symm)
          generalize (x21n).setRow x16n.heap.size (hc AB) = y1 at *
          refine wpAnyC_forced (i := 17) (by kernel_rfl) rfl (HcS.out) ?_
          (first | dsimp only [List.getElem_toArray, List.getElem_cons_succ, List.getElem_cons_zero] | dsimp (maxSteps := 10000000) only [List.getElem_toArray, List.getElem_cons_succ, List.getElem_cons_zero] | skip); (first | go_frame | simp (maxSteps := 10000000) only [Act.put, List.setIfInBounds_toArray, List.set_cons_succ, List.set_cons_zero] | skip)
          refine wpList_store_blk rfl 29 _ _ rfl x1n.heap.size rfl (hc CD) rfl _ _ HC2.out (by rw [hc_size, hCD]; rfl) (by rw [hc_size]; exact SCD.out) (hc_row_one _) ?_
          refine wpList_nil ?_
          show wpAnyC _ _ _ _ _ _ _ _ _
          (first | dsimp only [List.getElem_toArray, List.getElem_cons_succ, List.getElem_cons_zero] | dsimp (maxSteps := 10000000) only [List.getElem_toArray, List.getElem_cons_succ, List.getElem_cons_zero] | skip); (first | go_frame | simp (maxSteps := 10000000) only [Act.put, List.setIfInBounds_toArray, List.set_cons_succ, List.set_cons_zero] | skip)
          have HcT := hid (HcS.out.setRow (g := x1n.heap.size) Hgc21n.out (hc CD))
          refine wpAnyC_done (by kernel_rfl) HcT.out ?_ _
          go_wp2_with fail
          go_meet
          exact ⟨_, _, rfl, rfl, ((Hl2.out.later HcT.out).addB (HC2.out.setRow)).addB (HA2.out.setRow_ne hne), HcT.out⟩
    ·
      refine wpOp_list rfl ?_
      (first | dsimp only [List.getElem_toArray, List.getElem_cons_succ, List.getElem_cons_zero] | dsimp (maxSteps := 10000000) only [List.getElem_toArray, List.getElem_cons_succ, List.getElem_cons_zero] | skip); (first | go_frame | simp (maxSteps := 10000000) only [Act.put, List.setIfInBounds_toArray, List.set_cons_succ, List.set_cons_zero] | skip)
      go_wp2_with fail
      show wpAnyC _ _ _ _ _ _ _ _ (x0.alloc (.cells (hc zero32) 29))
      (first | dsimp only [List.getElem_toArray, List.getElem_cons_succ, List.getElem_cons_zero] | dsimp (maxSteps := 10000000) only [List.getElem_toArray, List.getElem_cons_succ, List.getElem_cons_zero] | skip); (first | go_frame | simp (maxSteps := 10000000) only [Act.put, List.setIfInBounds_toArray, List.set_cons_succ, List.set_cons_zero] | skip)
      have Hc23n := hid (Hc0.out.alloc Hc0.out.size (.cells (hc zero32) 29))
      have HA23n := hid (Blk.new x0 (hc zero32) 29); have Hga23n := hid Hc0.out.size
      generalize hgen : x0.alloc (.cells (hc zero32) 29) = x23n at *
      clear hgen
      refine wpAnyC_all (rs := [6, 15]) (by kernel_rfl) (by simp) Hc23n.out ?_
      intro z hz
      rcases (show z = 6 ∨ z = 15 by simpa using hz) with rfl | rfl
      ·
        refine wpOp_list rfl ?_
        (first | dsimp only [List.getElem_toArray, List.getElem_cons_succ, List.getElem_cons_zero] | dsimp (maxSteps := 10000000) only [List.getElem_toArray, List.getElem_cons_succ, List.getElem_cons_zero] | skip); (first | go_frame | simp (maxSteps := 10000000) only [Act.put, List.setIfInBounds_toArray, List.set_cons_succ, List.set_cons_zero] | skip)
        go_wp2_with (go_at_call 40; refine (N1.out _ (Hl2.out.sh.later Hc23n.out)).mono ?_; rintro e x24n ⟨rfl, hbx⟩)
        show wpAnyC _ _ _ _ _ _ _ _ _
        (first | dsimp only [List.getElem_toArray, List.getElem_cons_succ, List.getElem_cons_zero] | dsimp (maxSteps := 10000000) only [List.getElem_toArray, List.getElem_cons_succ, List.getElem_cons_zero] | skip); (first | go_frame | simp (maxSteps := 10000000) only [Act.put, List.setIfInBounds_toArray, List.set_cons_succ, List.set_cons_zero] | skip)
        have Hc24n := hid (bth Hc23n.out hbx)
        have HA24n := hid (HA23n.out.later hbx); have Hga24n := Hga23n
        clear hbx
        refine wpAnyC_all (rs := [13, 15]) (by kernel_rfl) (by simp) Hc24n.out ?_
        intro z hz
        rcases (show z = 13 ∨ z = 15 by simpa using hz) with rfl | rfl
        ·
          refine wpOp_list rfl ?_
          (first | dsimp only [List.getElem_toArray, List.getElem_cons_succ, List.getElem_cons_zero] | dsimp (maxSteps := 10000000) only [List.getElem_toArray, List.getElem_cons_succ, List.getElem_cons_zero] | skip); (first | go_frame | simp (maxSteps := 10000000) only [Act.put, List.setIfInBounds_toArray, List.set_cons_succ, List.set_cons_zero] | skip)
          go_wp2_with (go_at_call 40; refine (N2.out _ (Hl2.out.sh.later Hc24n.out)).mono ?_; rintro e x25n ⟨rfl, hbx⟩)
          show wpAnyC _ _ _ _ _ _ _ _ _
          (first | dsimp only [List.getElem_toArray, List.getElem_cons_succ, List.getElem_cons_zero] | dsimp (maxSteps := 10000000) only [List.getElem_toArray, List.getElem_cons_succ, List.getElem_cons_zero] | skip); (first | go_frame | simp (maxSteps := 10000000) only [Act.put, List.setIfInBounds_toArray, List.set_cons_succ, List.set_cons_zero] | skip)
          have Hc25n := hid (bth Hc24n.out hbx)
          have HA25n := hid (HA24n.out.later hbx); have Hga25n := Hga24n
          clear hbx
          refine wpAnyC_forced (i := 15) (by kernel_rfl) rfl (Hc25n.out) ?_
          (first | dsimp only [List.getElem_toArray, List.getElem_cons_succ, List.getElem_cons_zero] | dsimp (maxSteps := 10000000) only [List.getElem_toArray, List.getElem_cons_succ, List.getElem_cons_zero] | skip); (first | go_frame | simp (maxSteps := 10000000) only [Act.put, List.setIfInBounds_toArray, List.set_cons_succ, List.set_cons_zero] | skip)
          go_wp2_with fail
          show wpAnyC _ _ _ _ _ _ _ _ (x25n.alloc (.cells (hc zero32) 29))
          (first | dsimp only [List.getElem_toArray, List.getElem_cons_succ, List.getElem_cons_zero] | dsimp (maxSteps := 10000000) only [List.getElem_toArray, List.getElem_cons_succ, List.getElem_cons_zero] | skip); (first | go_frame | simp (maxSteps := 10000000) only [Act.put, List.setIfInBounds_toArray, List.set_cons_succ, List.set_cons_zero] | skip)
          have Hc26n := hid (Hc25n.out.alloc Hc25n.out.size (.cells (hc zero32) 29))
          have HC26n := hid (Blk.new x25n (hc zero32) 29); have Hgc26n := hid Hc25n.out.size
          have HA26n := hid (HA25n.out.alloc (.cells (hc zero32) 29)); have Hga26n := Hga25n
          have Hne26n := hid (show x0.heap.size ≠ x25n.heap.size from by have := HA25n.out.lt; omega)
          generalize hgen : x25n.alloc (.cells (hc zero32) 29) = x26n at *
          clear hgen
          refine wpAnyC_forced (i := 16) (by kernel_rfl) rfl (Hc26n.out) ?_
          (first | dsimp only [List.getElem_toArray, List.getElem_cons_succ, List.getElem_cons_zero] | dsimp (maxSteps := 10000000) only [List.getElem_toArray, List.getElem_cons_succ, List.getElem_cons_zero] | skip); (first | go_frame | simp (maxSteps := 10000000) only [Act.put, List.setIfInBounds_toArray, List.set_cons_succ, List.set_cons_zero] | skip)
          refine wpList_store_blk rfl 29 _ _ rfl x0.heap.size rfl (hc AB) rfl _ _ HA26n.out (by rw [hc_size, hAB]; rfl) (by rw [hc_size]; exact SAB.out) (hc_row_one _) ?_
          refine wpList_nil ?_
          show wpAnyC _ _ _ _ _ _ _ _ _
          (first | dsimp only [List.getElem_toArray, List.getElem_cons_succ, List.getElem_cons_zero] | dsimp (maxSteps := 10000000) only [List.getElem_toArray, List.getElem_cons_succ, List.getElem_cons_zero] | skip); (first | go_frame | simp (maxSteps := 10000000) only [Act.put, List.setIfInBounds_toArray, List.set_cons_succ, List.set_cons_zero] | skip)
          have hlt := HA26n.out.lt
          have hlt2 := HC26n.out.lt
          have hne : x0.heap.size ≠ x25n.heap.size := Hne26n.out
          have HcS := hid (Hc26n.out.setRow (g := x0.heap.size) Hga26n.out (hc AB))
          have HA2 := hid (HA26n.out.setRow (cs' := hc AB))
          have HC2 := hid (HC26n.out.setRow_ne (cs' := hc AB) hne.symm)
          generalize (x26n).setRow x0.heap.size (hc AB) = y1 at *
          refine wpAnyC_forced (i := 17) (by kernel_rfl) rfl (HcS.out) ?_
          (first | dsimp only [List.getElem_toArray, List.getElem_cons_succ, List.getElem_cons_zero] | dsimp (maxSteps := 10000000) only [List.getElem_toArray, List.getElem_cons_succ, List.getElem_cons_zero] | skip); (first | go_frame | simp (maxSteps := 10000000) only [Act.put, List.setIfInBounds_toArray, List.set_cons_succ, List.set_cons_zero] | skip)
          refine wpList_store_blk rfl 29 _ _ rfl x25n.heap.size rfl (hc CD) rfl _ _ HC2.out (by rw [hc_size, hCD]; rfl) (by rw [hc_size]; exact SCD.out) (hc_row_one _) ?_
          refine wpList_nil ?_
          show wpAnyC _ _ _ _ _ _ _ _ _
          (first | dsimp only [List.getElem_toArray, List.getElem_cons_succ, List.getElem_cons_zero] | dsimp (maxSteps := 10000000) only [List.getElem_toArray, List.getElem_cons_succ, List.getElem_cons_zero] | skip); (first | go_frame | simp (maxSteps := 10000000) only [Act.put, List.setIfInBounds_toArray, List.set_cons_succ, List.set_cons_zero] | skip)
          have HcT := hid (HcS.out.setRow (g := x25n.heap.size) Hgc26n.out (hc CD))
          refine wpAnyC_done (by kernel_rfl) HcT.out ?_ _
          go_wp2_with fail
          go_meet
          exact ⟨_, _, rfl, rfl, ((Hl2.out.later HcT.out).addB (HC2.out.setRow)).addB (HA2.out.setRow_ne hne), HcT.out⟩
        ·
          refine wpOp_list rfl ?_
          (first | dsimp only [List.getElem_toArray, List.getElem_cons_succ, List.getElem_cons_zero] | dsimp (maxSteps := 10000000) only [List.getElem_toArray, List.getElem_cons_succ, List.getElem_cons_zero] | skip); (first | go_frame | simp (maxSteps := 10000000) only [Act.put, List.setIfInBounds_toArray, List.set_cons_succ, List.set_cons_zero] | skip)
          go_wp2_with fail
          show wpAnyC _ _ _ _ _ _ _ _ (x24n.alloc (.cells (hc zero32) 29))
          (first | dsimp only [List.getElem_toArray, List.getElem_cons_succ, List.getElem_cons_zero] | dsimp (maxSteps := 10000000) only [List.getElem_toArray, List.getElem_cons_succ, List.getElem_cons_zero] | skip); (first | go_frame | simp (maxSteps := 10000000) only [Act.put, List.setIfInBounds_toArray, List.set_cons_succ, List.set_cons_zero] | skip)
          have Hc28n := hid (Hc24n.out.alloc Hc24n.out.size (.cells (hc zero32) 29))
          have HC28n := hid (Blk.new x24n (hc zero32) 29); have Hgc28n := hid Hc24n.out.size
          have HA28n := hid (HA24n.out.alloc (.cells (hc zero32) 29)); have Hga28n := Hga24n
          have Hne28n := hid (show x0.heap.size ≠ x24n.heap.size from by have := HA24n.out.lt; omega)
          generalize hgen : x24n.alloc (.cells (hc zero32) 29) = x28n at *
          clear hgen
          refine wpAnyC_forced (i := 13) (by kernel_rfl) rfl (Hc28n.out) ?_
          (first | dsimp only [List.getElem_toArray, List.getElem_cons_succ, List.getElem_cons_zero] | dsimp (maxSteps := 10000000) only [List.getElem_toArray, List.getElem_cons_succ, List.getElem_cons_zero] | skip); (first | go_frame | simp (maxSteps := 10000000) only [Act.put, List.setIfInBounds_toArray, List.set_cons_succ, List.set_cons_zero] | skip)
          go_wp2_with (go_at_call 40; refine (N2.out _ (Hl2.out.sh.later Hc28n.out)).mono ?_; rintro e x29n ⟨rfl, hbx⟩)
          show wpAnyC _ _ _ _ _ _ _ _ _
          (first | dsimp only [List.getElem_toArray, List.getElem_cons_succ, List.getElem_cons_zero] | dsimp (maxSteps := 10000000) only [List.getElem_toArray, List.getElem_cons_succ, List.getElem_cons_zero] | skip); (first | go_frame | simp (maxSteps := 10000000) only [Act.put, List.setIfInBounds_toArray, List.set_cons_succ, List.set_cons_zero] | skip)
          have Hc29n := hid (bth Hc28n.out hbx)
          have HA29n := hid (HA28n.out.later hbx); have Hga29n := Hga28n
          have HC29n := hid (HC28n.out.later hbx); have Hgc29n := Hgc28n
          have Hne29n := Hne28n
          clear hbx
          refine wpAnyC_forced (i := 16) (by kernel_rfl) rfl (Hc29n.out) ?_
          (first | dsimp only [List.getElem_toArray, List.getElem_cons_succ, List.getElem_cons_zero] | dsimp (maxSteps := 10000000) only [List.getElem_toArray, List.getElem_cons_succ, List.getElem_cons_zero] | skip); (first | go_frame | simp (maxSteps := 10000000) only [Act.put, List.setIfInBounds_toArray, List.set_cons_succ, List.set_cons_zero] | skip)
          refine wpList_store_blk rfl 29 _ _ rfl x0.heap.size rfl (hc AB) rfl _ _ HA29n.out (by rw [hc_size, hAB]; rfl) (by rw [hc_size]; exact SAB.out) (hc_row_one _) ?_
          refine wpList_nil ?_
          show wpAnyC _ _ _ _ _ _ _ _ _
          (first | dsimp only [List.getElem_toArray, List.getElem_cons_succ, List.getElem_cons_zero] | dsimp (maxSteps := 10000000) only [List.getElem_toArray, List.getElem_cons_succ, List.getElem_cons_zero] | skip); (first | go_frame | simp (maxSteps := 10000000) only [Act.put, List.setIfInBounds_toArray, List.set_cons_succ, List.set_cons_zero] | skip)
          have hlt := HA29n.out.lt
          have hlt2 := HC29n.out.lt
          have hne : x0.heap.size ≠ x24n.heap.size := Hne29n.out
          have HcS := hid (Hc29n.out.setRow (g := x0.heap.size) Hga29n.out (hc AB))
          have HA2 := hid (HA29n.out.setRow (cs' := hc AB))
          have HC2 := hid (HC29n.out.setRow_ne (cs' := hc AB) hne.symm)
          generalize (x29n).setRow x0.heap.size (hc AB) = y1 at *
          refine wpAnyC_forced (i := 17) (by kernel_rfl) rfl (HcS.out) ?_
          (first | dsimp only [List.getElem_toArray, List.getElem_cons_succ, List.getElem_cons_zero] | dsimp (maxSteps := 10000000) only [List.getElem_toArray, List.getElem_cons_succ, List.getElem_cons_zero] | skip); (first | go_frame | simp (maxSteps := 10000000) only [Act.put, List.setIfInBounds_toArray, List.set_cons_succ, List.set_cons_zero] | skip)
          refine wpList_store_blk rfl 29 _ _ rfl x24n.heap.size rfl (hc CD) rfl _ _ HC2.out (by rw [hc_size, hCD]; rfl) (by rw [hc_size]; exact SCD.out) (hc_row_one _) ?_
          refine wpList_nil ?_
          show wpAnyC _ _ _ _ _ _ _ _ _
          (first | dsimp only [List.getElem_toArray, List.getElem_cons_succ, List.getElem_cons_zero] | dsimp (maxSteps := 10000000) only [List.getElem_toArray, List.getElem_cons_succ, List.getElem_cons_zero] | skip); (first | go_frame | simp (maxSteps := 10000000) only [Act.put, List.setIfInBounds_toArray, List.set_cons_succ, List.set_cons_zero] | skip)
          have HcT := hid (HcS.out.setRow (g := x24n.heap.size) Hgc29n.out (hc CD))
          refine wpAnyC_done (by kernel_rfl) HcT.out ?_ _
          go_wp2_with fail
          go_meet
          exact ⟨_, _, rfl, rfl, ((Hl2.out.later HcT.out).addB (HC2.out.setRow)).addB (HA2.out.setRow_ne hne), HcT.out⟩
      ·
        refine wpOp_list rfl ?_
        (first | dsimp only [List.getElem_toArray, List.getElem_cons_succ, List.getElem_cons_zero] | dsimp (maxSteps := 10000000) only [List.getElem_toArray, List.getElem_cons_succ, List.getElem_cons_zero] | skip); (first | go_frame | simp (maxSteps := 10000000) only [Act.put, List.setIfInBounds_toArray, List.set_cons_succ, List.set_cons_zero] | skip)
        go_wp2_with fail
        show wpAnyC _ _ _ _ _ _ _ _ (x23n.alloc (.cells (hc zero32) 29))
        (first | dsimp only [List.getElem_toArray, List.getElem_cons_succ, List.getElem_cons_zero] | dsimp (maxSteps := 10000000) only [List.getElem_toArray, List.getElem_cons_succ, List.getElem_cons_zero] | skip); (first | go_frame | simp (maxSteps := 10000000) only [Act.put, List.setIfInBounds_toArray, List.set_cons_succ, List.set_cons_zero] | skip)
        have Hc31n := hid (Hc23n.out.alloc Hc23n.out.size (.cells (hc zero32) 29))
        have HC31n := hid (Blk.new x23n (hc zero32) 29); have Hgc31n := hid Hc23n.out.size
        have HA31n := hid (HA23n.out.alloc (.cells (hc zero32) 29)); have Hga31n := Hga23n
        have Hne31n := hid (show x0.heap.size ≠ x23n.heap.size from by have := HA23n.out.lt; omega)
        generalize hgen : x23n.alloc (.cells (hc zero32) 29) = x31n at *
        clear hgen
        refine wpAnyC_forced (i := 6) (by kernel_rfl) rfl (Hc31n.out) ?_
        (first | dsimp only [List.getElem_toArray, List.getElem_cons_succ, List.getElem_cons_zero] | dsimp (maxSteps := 10000000) only [List.getElem_toArray, List.getElem_cons_succ, List.getElem_cons_zero] | skip); (first | go_frame | simp (maxSteps := 10000000) only [Act.put, List.setIfInBounds_toArray, List.set_cons_succ, List.set_cons_zero] | skip)
        go_wp2_with (go_at_call 40; refine (N1.out _ (Hl2.out.sh.later Hc31n.out)).mono ?_; rintro e x32n ⟨rfl, hbx⟩)
        show wpAnyC _ _ _ _ _ _ _ _ _
        (first | dsimp only [List.getElem_toArray, List.getElem_cons_succ, List.getElem_cons_zero] | dsimp (maxSteps := 10000000) only [List.getElem_toArray, List.getElem_cons_succ, List.getElem_cons_zero] | skip); (first | go_frame | simp (maxSteps := 10000000) only [Act.put, List.setIfInBounds_toArray, List.set_cons_succ, List.set_cons_zero] | skip)
        have Hc32n := hid (bth Hc31n.out hbx)
        have HA32n := hid (HA31n.out.later hbx); have Hga32n := Hga31n
        have HC32n := hid (HC31n.out.later hbx); have Hgc32n := Hgc31n
        have Hne32n := Hne31n
        clear hbx
        refine wpAnyC_forced (i := 13) (by kernel_rfl) rfl (Hc32n.out) ?_
        (first | dsimp only [List.getElem_toArray, List.getElem_cons_succ, List.getElem_cons_zero] | dsimp (maxSteps := 10000000) only [List.getElem_toArray, List.getElem_cons_succ, List.getElem_cons_zero] | skip); (first | go_frame | simp (maxSteps := 10000000) only [Act.put, List.setIfInBounds_toArray, List.set_cons_succ, List.set_cons_zero] | skip)
        go_wp2_with (go_at_call 40; refine (N2.out _ (Hl2.out.sh.later Hc32n.out)).mono ?_; rintro e x33n ⟨rfl, hbx⟩)
        show wpAnyC _ _ _ _ _ _ _ _ _
        (first | dsimp only [List.getElem_toArray, List.getElem_cons_succ, List.getElem_cons_zero] | dsimp (maxSteps := 10000000) only [List.getElem_toArray, List.getElem_cons_succ, List.getElem_cons_zero] | skip); (first | go_frame | simp (maxSteps := 10000000) only [Act.put, List.setIfInBounds_toArray, List.set_cons_succ, List.set_cons_zero] | skip)
        have Hc33n := hid (bth Hc32n.out hbx)
        have HA33n := hid (HA32n.out.later hbx); have Hga33n := Hga32n
        have HC33n := hid (HC32n.out.later hbx); have Hgc33n := Hgc32n
        have Hne33n := Hne32n
        clear hbx
        refine wpAnyC_forced (i := 16) (by kernel_rfl) rfl (Hc33n.out) ?_
        (first | dsimp only [List.getElem_toArray, List.getElem_cons_succ, List.getElem_cons_zero] | dsimp (maxSteps := 10000000) only [List.getElem_toArray, List.getElem_cons_succ, List.getElem_cons_zero] | skip); (first | go_frame | simp (maxSteps := 10000000) only [Act.put, List.setIfInBounds_toArray, List.set_cons_succ, List.set_cons_zero] | skip)
        refine wpList_store_blk rfl 29 _ _ rfl x0.heap.size rfl (hc AB) rfl _ _ HA33n.out (by rw [hc_size, hAB]; rfl) (by rw [hc_size]; exact SAB.out) (hc_row_one _) ?_
        refine wpList_nil ?_
        show wpAnyC _ _ _ _ _ _ _ _ _
        (first | dsimp only [List.getElem_toArray, List.getElem_cons_succ, List.getElem_cons_zero] | dsimp (maxSteps := 10000000) only [List.getElem_toArray, List.getElem_cons_succ, List.getElem_cons_zero] | skip); (first | go_frame | simp (maxSteps := 10000000) only [Act.put, List.setIfInBounds_toArray, List.set_cons_succ, List.set_cons_zero] | skip)
        have hlt := HA33n.out.lt
        have hlt2 := HC33n.out.lt
        have hne : x0.heap.size ≠ x23n.heap.size := Hne33n.out
        have HcS := hid (Hc33n.out.setRow (g := x0.heap.size) Hga33n.out (hc AB))
        have HA2 := hid (HA33n.out.setRow (cs' := hc AB))
        have HC2 := hid (HC33n.out.setRow_ne (cs' := hc AB) hne.symm)
        generalize (x33n).setRow x0.heap.size (hc AB) = y1 at *
        refine wpAnyC_forced (i := 17) (by kernel_rfl) rfl (HcS.out) ?_
        (first | dsimp only [List.getElem_toArray, List.getElem_cons_succ, List.getElem_cons_zero] | dsimp (maxSteps := 10000000) only [List.getElem_toArray, List.getElem_cons_succ, List.getElem_cons_zero] | skip); (first | go_frame | simp (maxSteps := 10000000) only [Act.put, List.setIfInBounds_toArray, List.set_cons_succ, List.set_cons_zero] | skip)
        refine wpList_store_blk rfl 29 _ _ rfl x23n.heap.size rfl (hc CD) rfl _ _ HC2.out (by rw [hc_size, hCD]; rfl) (by rw [hc_size]; exact SCD.out) (hc_row_one _) ?_
        refine wpList_nil ?_
        show wpAnyC _ _ _ _ _ _ _ _ _
        (first | dsimp only [List.getElem_toArray, List.getElem_cons_succ, List.getElem_cons_zero] | dsimp (maxSteps := 10000000) only [List.getElem_toArray, List.getElem_cons_succ, List.getElem_cons_zero] | skip); (first | go_frame | simp (maxSteps := 10000000) only [Act.put, List.setIfInBounds_toArray, List.set_cons_succ, List.set_cons_zero] | skip)
        have HcT := hid (HcS.out.setRow (g := x23n.heap.size) Hgc33n.out (hc CD))
        refine wpAnyC_done (by kernel_rfl) HcT.out ?_ _
        go_wp2_with fail
        go_meet
        exact ⟨_, _, rfl, rfl, ((Hl2.out.later HcT.out).addB (HC2.out.setRow)).addB (HA2.out.setRow_ne hne), HcT.out⟩
    ·
      refine wpOp_list rfl ?_
      (first | dsimp only [List.getElem_toArray, List.getElem_cons_succ, List.getElem_cons_zero] | dsimp (maxSteps := 10000000) only [List.getElem_toArray, List.getElem_cons_succ, List.getElem_cons_zero] | skip); (first | go_frame | simp (maxSteps := 10000000) only [Act.put, List.setIfInBounds_toArray, List.set_cons_succ, List.set_cons_zero] | skip)
      go_wp2_with fail
      show wpAnyC _ _ _ _ _ _ _ _ (x0.alloc (.cells (hc zero32) 29))
      (first | dsimp only [List.getElem_toArray, List.getElem_cons_succ, List.getElem_cons_zero] | dsimp (maxSteps := 10000000) only [List.getElem_toArray, List.getElem_cons_succ, List.getElem_cons_zero] | skip); (first | go_frame | simp (maxSteps := 10000000) only [Act.put, List.setIfInBounds_toArray, List.set_cons_succ, List.set_cons_zero] | skip)
      have Hc35n := hid (Hc0.out.alloc Hc0.out.size (.cells (hc zero32) 29))
      have HC35n := hid (Blk.new x0 (hc zero32) 29); have Hgc35n := hid Hc0.out.size
      generalize hgen : x0.alloc (.cells (hc zero32) 29) = x35n at *
      clear hgen
      refine wpAnyC_all (rs := [6, 14]) (by kernel_rfl) (by simp) Hc35n.out ?_
      intro z hz
      rcases (show z = 6 ∨ z = 14 by simpa using hz) with rfl | rfl
      ·
        refine wpOp_list rfl ?_
        (first | dsimp only [List.getElem_toArray, List.getElem_cons_succ, List.getElem_cons_zero] | dsimp (maxSteps := 10000000) only [List.getElem_toArray, List.getElem_cons_succ, List.getElem_cons_zero] | skip); (first | go_frame | simp (maxSteps := 10000000) only [Act.put, List.setIfInBounds_toArray, List.set_cons_succ, List.set_cons_zero] | skip)
        go_wp2_with (go_at_call 40; refine (N1.out _ (Hl2.out.sh.later Hc35n.out)).mono ?_; rintro e x36n ⟨rfl, hbx⟩)
        show wpAnyC _ _ _ _ _ _ _ _ _
        (first | dsimp only [List.getElem_toArray, List.getElem_cons_succ, List.getElem_cons_zero] | dsimp (maxSteps := 10000000) only [List.getElem_toArray, List.getElem_cons_succ, List.getElem_cons_zero] | skip); (first | go_frame | simp (maxSteps := 10000000) only [Act.put, List.setIfInBounds_toArray, List.set_cons_succ, List.set_cons_zero] | skip)
        have Hc36n := hid (bth Hc35n.out hbx)
        have HC36n := hid (HC35n.out.later hbx); have Hgc36n := Hgc35n
        clear hbx
        refine wpAnyC_all (rs := [13, 14]) (by kernel_rfl) (by simp) Hc36n.out ?_
        intro z hz
        rcases (show z = 13 ∨ z = 14 by simpa using hz) with rfl | rfl
        ·
          refine wpOp_list rfl ?_
          (first | dsimp only [List.getElem_toArray, List.getElem_cons_succ, List.getElem_cons_zero] | dsimp (maxSteps := 10000000) only [List.getElem_toArray, List.getElem_cons_succ, List.getElem_cons_zero] | skip); (first | go_frame | simp (maxSteps := 10000000) only [Act.put, List.setIfInBounds_toArray, List.set_cons_succ, List.set_cons_zero] | skip)
          go_wp2_with (go_at_call 40; refine (N2.out _ (Hl2.out.sh.later Hc36n.out)).mono ?_; rintro e x37n ⟨rfl, hbx⟩)
          show wpAnyC _ _ _ _ _ _ _ _ _
          (first | dsimp only [List.getElem_toArray, List.getElem_cons_succ, List.getElem_cons_zero] | dsimp (maxSteps := 10000000) only [List.getElem_toArray, List.getElem_cons_succ, List.getElem_cons_zero] | skip); (first | go_frame | simp (maxSteps := 10000000) only [Act.put, List.setIfInBounds_toArray, List.set_cons_succ, List.set_cons_zero] | skip)
          have Hc37n := hid (bth Hc36n.out hbx)
          have HC37n := hid (HC36n.out.later hbx); have Hgc37n := Hgc36n
          clear hbx
          refine wpAnyC_forced (i := 14) (by kernel_rfl) rfl (Hc37n.out) ?_
          (first | dsimp only [List.getElem_toArray, List.getElem_cons_succ, List.getElem_cons_zero] | dsimp (maxSteps := 10000000) only [List.getElem_toArray, List.getElem_cons_succ, List.getElem_cons_zero] | skip); (first | go_frame | simp (maxSteps := 10000000) only [Act.put, List.setIfInBounds_toArray, List.set_cons_succ, List.set_cons_zero] | skip)
          go_wp2_with fail
          show wpAnyC _ _ _ _ _ _ _ _ (x37n.alloc (.cells (hc zero32) 29))
          (first | dsimp only [List.getElem_toArray, List.getElem_cons_succ, List.getElem_cons_zero] | dsimp (maxSteps := 10000000) only [List.getElem_toArray, List.getElem_cons_succ, List.getElem_cons_zero] | skip); (first | go_frame | simp (maxSteps := 10000000) only [Act.put, List.setIfInBounds_toArray, List.set_cons_succ, List.set_cons_zero] | skip)
          have Hc38n := hid (Hc37n.out.alloc Hc37n.out.size (.cells (hc zero32) 29))
          have HA38n := hid (Blk.new x37n (hc zero32) 29); have Hga38n := hid Hc37n.out.size
          have HC38n := hid (HC37n.out.alloc (.cells (hc zero32) 29)); have Hgc38n := Hgc37n
          have Hne38n := hid (show x37n.heap.size ≠ x0.heap.size from by have := HC37n.out.lt; omega)
          generalize hgen : x37n.alloc (.cells (hc zero32) 29) = x38n at *
          clear hgen
          refine wpAnyC_forced (i := 16) (by kernel_rfl) rfl (Hc38n.out) ?_
          (first | dsimp only [List.getElem_toArray, List.getElem_cons_succ, List.getElem_cons_zero] | dsimp (maxSteps := 10000000) only [List.getElem_toArray, List.getElem_cons_succ, List.getElem_cons_zero] | skip); (first | go_frame | simp (maxSteps := 10000000) only [Act.put, List.setIfInBounds_toArray, List.set_cons_succ, List.set_cons_zero] | skip)
          refine wpList_store_blk rfl 29 _ _ rfl x37n.heap.size rfl (hc AB) rfl _ _ HA38n.out (by rw [hc_size, hAB]; rfl) (by rw [hc_size]; exact SAB.out) (hc_row_one _) ?_
          refine wpList_nil ?_
          show wpAnyC _ _ _ _ _ _ _ _ _
          (first | dsimp only [List.getElem_toArray, List.getElem_cons_succ, List.getElem_cons_zero] | dsimp (maxSteps := 10000000) only [List.getElem_toArray, List.getElem_cons_succ, List.getElem_cons_zero] | skip); (first | go_frame | simp (maxSteps := 10000000) only [Act.put, List.setIfInBounds_toArray, List.set_cons_succ, List.set_cons_zero] | skip)
          have hlt := HA38n.out.lt
          have hlt2 := HC38n.out.lt
          have hne : x37n.heap.size ≠ x0.heap.size := Hne38n.out
          have HcS := hid (Hc38n.out.setRow (g := x37n.heap.size) Hga38n.out (hc AB))
          have HA2 := hid (HA38n.out.setRow (cs' := hc AB))
          have HC2 := hid (HC38n.out.setRow_ne (cs' := hc AB) hne.symm)
          generalize (x38n).setRow x37n.heap.size (hc AB) = y1 at *
          refine wpAnyC_forced (i := 17) (by kernel_rfl) rfl (HcS.out) ?_
          (first | dsimp only [List.getElem_toArray, List.getElem_cons_succ, List.getElem_cons_zero] | dsimp (maxSteps := 10000000) only [List.getElem_toArray, List.getElem_cons_succ, List.getElem_cons_zero] | skip); (first | go_frame | simp (maxSteps := 10000000) only [Act.put, List.setIfInBounds_toArray, List.set_cons_succ, List.set_cons_zero] | skip)
          refine wpList_store_blk rfl 29 _ _ rfl x0.heap.size rfl (hc CD) rfl _ _ HC2.out (by rw [hc_size, hCD]; rfl) (by rw [hc_size]; exact SCD.out) (hc_row_one _) ?_
          refine wpList_nil ?_
          show wpAnyC _ _ _ _ _ _ _ _ _
          (first | dsimp only [List.getElem_toArray, List.getElem_cons_succ, List.getElem_cons_zero] | dsimp (maxSteps := 10000000) only [List.getElem_toArray, List.getElem_cons_succ, List.getElem_cons_zero] | skip); (first | go_frame | simp (maxSteps := 10000000) only [Act.put, List.setIfInBounds_toArray, List.set_cons_succ, List.set_cons_zero] | skip)
          have HcT := hid (HcS.out.setRow (g := x0.heap.size) Hgc38n.out (hc CD))
          refine wpAnyC_done (by kernel_rfl) HcT.out ?_ _
          go_wp2_with fail
          go_meet
          exact ⟨_, _, rfl, rfl, ((Hl2.out.later HcT.out).addB (HC2.out.setRow)).addB (HA2.out.setRow_ne hne), HcT.out⟩
        ·
          refine wpOp_list rfl ?_
          (first | dsimp only [List.getElem_toArray, List.getElem_cons_succ, List.getElem_cons_zero] | dsimp (maxSteps := 10000000) only [List.getElem_toArray, List.getElem_cons_succ, List.getElem_cons_zero] | skip); (first | go_frame | simp (maxSteps := 10000000) only [Act.put, List.setIfInBounds_toArray, List.set_cons_succ, List.set_cons_zero] | skip)
          go_wp2_with fail
          show wpAnyC _ _ _ _ _ _ _ _ (x36n.alloc (.cells (hc zero32) 29))
          (first | dsimp only [List.getElem_toArray, List.getElem_cons_succ, List.getElem_cons_zero] | dsimp (maxSteps := 10000000) only [List.getElem_toArray, List.getElem_cons_succ, List.getElem_cons_zero] | skip); (first | go_frame | simp (maxSteps := 10000000) only [Act.put, List.setIfInBounds_toArray, List.set_cons_succ, List.set_cons_zero] | skip)
          have Hc40n := hid (Hc36n.out.alloc Hc36n.out.size (.cells (hc zero32) 29))
          have HA40n := hid (Blk.new x36n (hc zero32) 29); have Hga40n := hid Hc36n.out.size
          have HC40n := hid (HC36n.out.alloc (.cells (hc zero32) 29)); have Hgc40n := Hgc36n
          have Hne40n := hid (show x36n.heap.size ≠ x0.heap.size from by have := HC36n.out.lt; omega)
          generalize hgen : x36n.alloc (.cells (hc zero32) 29) = x40n at *
          clear hgen
          refine wpAnyC_forced (i := 13) (by kernel_rfl) rfl (Hc40n.out) ?_
          (first | dsimp only [List.getElem_toArray, List.getElem_cons_succ, List.getElem_cons_zero] | dsimp (maxSteps := 10000000) only [List.getElem_toArray, List.getElem_cons_succ, List.getElem_cons_zero] | skip); (first | go_frame | simp (maxSteps := 10000000) only [Act.put, List.setIfInBounds_toArray, List.set_cons_succ, List.set_cons_zero] | skip)
          go_wp2_with (go_at_call 40; refine (N2.out _ (Hl2.out.sh.later Hc40n.out)).mono ?_; rintro e x41n ⟨rfl, hbx⟩)
          show wpAnyC _ _ _ _ _ _ _ _ _
          (first | dsimp only [List.getElem_toArray, List.getElem_cons_succ, List.getElem_cons_zero] | dsimp (maxSteps := 10000000) only [List.getElem_toArray, List.getElem_cons_succ, List.getElem_cons_zero] | skip); (first | go_frame | simp (maxSteps := 10000000) only [Act.put, List.setIfInBounds_toArray, List.set_cons_succ, List.set_cons_zero] | skip)
          have Hc41n := hid (bth Hc40n.out hbx)
          have HA41n := hid (HA40n.out.later hbx); have Hga41n := Hga40n
          have HC41n := hid (HC40n.out.later hbx); have Hgc41n := Hgc40n
          have Hne41n := Hne40n
          clear hbx
          refine wpAnyC_forced (i := 16) (by kernel_rfl) rfl (Hc41n.out) ?_
          (first | dsimp only [List.getElem_toArray, List.getElem_cons_succ, List.getElem_cons_zero] | dsimp (maxSteps := 10000000) only [List.getElem_toArray, List.getElem_cons_succ, List.getElem_cons_zero] | skip); (first | go_frame | simp (maxSteps := 10000000) only [Act.put, List.setIfInBounds_toArray, List.set_cons_succ, List.set_cons_zero] | skip)
          refine wpList_store_blk rfl 29 _ _ rfl x36n.heap.size rfl (hc AB) rfl _ _ HA41n.out (by rw [hc_size, hAB]; rfl) (by rw [hc_size]; exact SAB.out) (hc_row_one _) ?_
          refine wpList_nil ?_
          show wpAnyC _ _ _ _ _ _ _ _ _
          (first | dsimp only [List.getElem_toArray, List.getElem_cons_succ, List.getElem_cons_zero] | dsimp (maxSteps := 10000000) only [List.getElem_toArray, List.getElem_cons_succ, List.getElem_cons_zero] | skip); (first | go_frame | simp (maxSteps := 10000000) only [Act.put, List.setIfInBounds_toArray, List.set_cons_succ, List.set_cons_zero] | skip)
          have hlt := HA41n.out.lt
          have hlt2 := HC41n.out.lt
          have hne : x36n.heap.size ≠ x0.heap.size := Hne41n.out
          have HcS := hid (Hc41n.out.setRow (g := x36n.heap.size) Hga41n.out (hc AB))
          have HA2 := hid (HA41n.out.setRow (cs' := hc AB))
          have HC2 := hid (HC41n.out.setRow_ne (cs' := hc AB) hne.symm)
          generalize (x41n).setRow x36n.heap.size (hc AB) = y1 at *
          refine wpAnyC_forced (i := 17) (by kernel_rfl) rfl (HcS.out) ?_
          (first | dsimp only [List.getElem_toArray, List.getElem_cons_succ, List.getElem_cons_zero] | dsimp (maxSteps := 10000000) only [List.getElem_toArray, List.getElem_cons_succ, List.getElem_cons_zero] | skip); (first | go_frame | simp (maxSteps := 10000000) only [Act.put, List.setIfInBounds_toArray, List.set_cons_succ, List.set_cons_zero] | skip)
          refine wpList_store_blk rfl 29 _ _ rfl x0.heap.size rfl (hc CD) rfl _ _ HC2.out (by rw [hc_size, hCD]; rfl) (by rw [hc_size]; exact SCD.out) (hc_row_one _) ?_
          refine wpList_nil ?_
          show wpAnyC _ _ _ _ _ _ _ _ _
          (first | dsimp only [List.getElem_toArray, List.getElem_cons_succ, List.getElem_cons_zero] | dsimp (maxSteps := 10000000) only [List.getElem_toArray, List.getElem_cons_succ, List.getElem_cons_zero] | skip); (first | go_frame | simp (maxSteps := 10000000) only [Act.put, List.setIfInBounds_toArray, List.set_cons_succ, List.set_cons_zero] | skip)
          have HcT := hid (HcS.out.setRow (g := x0.heap.size) Hgc41n.out (hc CD))
          refine wpAnyC_done (by kernel_rfl) HcT.out ?_ _
          go_wp2_with fail
          go_meet
          exact ⟨_, _, rfl, rfl, ((Hl2.out.later HcT.out).addB (HC2.out.setRow)).addB (HA2.out.setRow_ne hne), HcT.out⟩
      ·
        refine wpOp_list rfl ?_
        (first | dsimp only [List.getElem_toArray, List.getElem_cons_succ, List.getElem_cons_zero] | dsimp (maxSteps := 10000000) only [List.getElem_toArray, List.getElem_cons_succ, List.getElem_cons_zero] | skip); (first | go_frame | simp (maxSteps := 10000000) only [Act.put, List.setIfInBounds_toArray, List.set_cons_succ, List.set_cons_zero] | skip)
        go_wp2_with fail
        show wpAnyC _ _ _ _ _ _ _ _ (x35n.alloc (.cells (hc zero32) 29))
        (first | dsimp only [List.getElem_toArray, List.getElem_cons_succ, List.getElem_cons_zero] | dsimp (maxSteps := 10000000) only [List.getElem_toArray, List.getElem_cons_succ, List.getElem_cons_zero] | skip); (first | go_frame | simp (maxSteps := 10000000) only [Act.put, List.setIfInBounds_toArray, List.set_cons_succ, List.set_cons_zero] | skip)
        have Hc43n := hid (Hc35n.out.alloc Hc35n.out.size (.cells (hc zero32) 29))
        have HA43n := hid (Blk.new x35n (hc zero32) 29); have Hga43n := hid Hc35n.out.size
        have HC43n := hid (HC35n.out.alloc (.cells (hc zero32) 29)); have Hgc43n := Hgc35n
        have Hne43n := hid (show x35n.heap.size ≠ x0.heap.size from by have := HC35n.out.lt; omega)
        generalize hgen : x35n.alloc (.cells (hc zero32) 29) = x43n at *
        clear hgen
        refine wpAnyC_forced (i := 6) (by kernel_rfl) rfl (Hc43n.out) ?_
        (first | dsimp only [List.getElem_toArray, List.getElem_cons_succ, List.getElem_cons_zero] | dsimp (maxSteps := 10000000) only [List.getElem_toArray, List.getElem_cons_succ, List.getElem_cons_zero] | skip); (first | go_frame | simp (maxSteps := 10000000) only [Act.put, List.setIfInBounds_toArray, List.set_cons_succ, List.set_cons_zero] | skip)
        go_wp2_with (go_at_call 40; refine (N1.out _ (Hl2.out.sh.later Hc43n.out)).mono ?_; rintro e x44n ⟨rfl, hbx⟩)
        show wpAnyC _ _ _ _ _ _ _ _ _
        (first | dsimp only [List.getElem_toArray, List.getElem_cons_succ, List.getElem_cons_zero] | dsimp (maxSteps := 10000000) only [List.getElem_toArray, List.getElem_cons_succ, List.getElem_cons_zero] | skip); (first | go_frame | simp (maxSteps := 10000000) only [Act.put, List.setIfInBounds_toArray, List.set_cons_succ, List.set_cons_zero] | skip)
        have Hc44n := hid (bth Hc43n.out hbx)
        have HA44n := hid (HA43n.out.later hbx); have Hga44n := Hga43n
        have HC44n := hid (HC43n.out.later hbx); have Hgc44n := Hgc43n
        have Hne44n := Hne43n
        clear hbx
        refine wpAnyC_forced (i := 13) (by kernel_rfl) rfl (Hc44n.out) ?_
        (first | dsimp only [List.getElem_toArray, List.getElem_cons_succ, List.getElem_cons_zero] | dsimp (maxSteps := 10000000) only [List.getElem_toArray, List.getElem_cons_succ, List.getElem_cons_zero] | skip); (first | go_frame | simp (maxSteps := 10000000) only [Act.put, List.setIfInBounds_toArray, List.set_cons_succ, List.set_cons_zero] | skip)
        go_wp2_with (go_at_call 40; refine (N2.out _ (Hl2.out.sh.later Hc44n.out)).mono ?_; rintro e x45n ⟨rfl, hbx⟩)
        show wpAnyC _ _ _ _ _ _ _ _ _
        (first | dsimp only [List.getElem_toArray, List.getElem_cons_succ, List.getElem_cons_zero] | dsimp (maxSteps := 10000000) only [List.getElem_toArray, List.getElem_cons_succ, List.getElem_cons_zero] | skip); (first | go_frame | simp (maxSteps := 10000000) only [Act.put, List.setIfInBounds_toArray, List.set_cons_succ, List.set_cons_zero] | skip)
        have Hc45n := hid (bth Hc44n.out hbx)
        have HA45n := hid (HA44n.out.later hbx); have Hga45n := Hga44n
        have HC45n := hid (HC44n.out.later hbx); have Hgc45n := Hgc44n
        have Hne45n := Hne44n
        clear hbx
        refine wpAnyC_forced (i := 16) (by kernel_rfl) rfl (Hc45n.out) ?_
        (first | dsimp only [List.getElem_toArray, List.getElem_cons_succ, List.getElem_cons_zero] | dsimp (maxSteps := 10000000) only [List.getElem_toArray, List.getElem_cons_succ, List.getElem_cons_zero] | skip); (first | go_frame | simp (maxSteps := 10000000) only [Act.put, List.setIfInBounds_toArray, List.set_cons_succ, List.set_cons_zero] | skip)
        refine wpList_store_blk rfl 29 _ _ rfl x35n.heap.size rfl (hc AB) rfl _ _ HA45n.out (by rw [hc_size, hAB]; rfl) (by rw [hc_size]; exact SAB.out) (hc_row_one _) ?_
        refine wpList_nil ?_
        show wpAnyC _ _ _ _ _ _ _ _ _
        (first | dsimp only [List.getElem_toArray, List.getElem_cons_succ, List.getElem_cons_zero] | dsimp (maxSteps := 10000000) only [List.getElem_toArray, List.getElem_cons_succ, List.getElem_cons_zero] | skip); (first | go_frame | simp (maxSteps := 10000000) only [Act.put, List.setIfInBounds_toArray, List.set_cons_succ, List.set_cons_zero] | skip)
        have hlt := HA45n.out.lt
        have hlt2 := HC45n.out.lt
        have hne : x35n.heap.size ≠ x0.heap.size := Hne45n.out
        have HcS := hid (Hc45n.out.setRow (g := x35n.heap.size) Hga45n.out (hc AB))
        have HA2 := hid (HA45n.out.setRow (cs' := hc AB))
        have HC2 := hid (HC45n.out.setRow_ne (cs' := hc AB) hne.symm)
        generalize (x45n).setRow x35n.heap.size (hc AB) = y1 at *
        refine wpAnyC_forced (i := 17) (by kernel_rfl) rfl (HcS.out) ?_
        (first | dsimp only [List.getElem_toArray, List.getElem_cons_succ, List.getElem_cons_zero] | dsimp (maxSteps := 10000000) only [List.getElem_toArray, List.getElem_cons_succ, List.getElem_cons_zero] | skip); (first | go_frame | simp (maxSteps := 10000000) only [Act.put, List.setIfInBounds_toArray, List.set_cons_succ, List.set_cons_zero] | skip)
        refine wpList_store_blk rfl 29 _ _ rfl x0.heap.size rfl (hc CD) rfl _ _ HC2.out (by rw [hc_size, hCD]; rfl) (by rw [hc_size]; exact SCD.out) (hc_row_one _) ?_
        refine wpList_nil ?_
        show wpAnyC _ _ _ _ _ _ _ _ _
        (first | dsimp only [List.getElem_toArray, List.getElem_cons_succ, List.getElem_cons_zero] | dsimp (maxSteps := 10000000) only [List.getElem_toArray, List.getElem_cons_succ, List.getElem_cons_zero] | skip); (first | go_frame | simp (maxSteps := 10000000) only [Act.put, List.setIfInBounds_toArray, List.set_cons_succ, List.set_cons_zero] | skip)
        have HcT := hid (HcS.out.setRow (g := x0.heap.size) Hgc45n.out (hc CD))
        refine wpAnyC_done (by kernel_rfl) HcT.out ?_ _
        go_wp2_with fail
        go_meet
        exact ⟨_, _, rfl, rfl, ((Hl2.out.later HcT.out).addB (HC2.out.setRow)).addB (HA2.out.setRow_ne hne), HcT.out⟩
  case rest =>
    obtain ⟨ga, gc, rfl, rfl, hl5, hb5⟩ := hcut
    have HB5 := hid (bth HB2.out hb5)
    have Hl5 := hid hl5
    clear hl5 hb5 HB2 Hl2 N1 N2
    go_upto_region 6 with fail
    go_upto_region 7 with (first
      | (go_at_call 12; refine (T11.out _ _ _ Hl5.out.ti).mono ?_; rintro e w6 ⟨rfl, hb⟩)
      | ((with_reducible show wpList _ _ _ ({ dst := _, op := Op.store _ _ _, type := _, pos := _, after := _, guard := _ } :: _) _ _); refine wpList_store_new rfl 29 _ _ rfl rfl CD rfl (hc zero32) 29 (by rw [hCD]; rfl) SCD.out ?_))
    have HB6 := hid ((bth HB5.out hb).alloc (bth HB5.out hb).size (.cells (hc CD) 29))
    have Hl6 := hid ((Hl5.out.later hb).new CD)
    clear hb HB5 Hl5
    show Code.wp _ _ _ _ (w6.alloc (.cells (hc CD) 29))
    generalize hgen : w6.alloc (.cells (hc CD) 29) = y6 at *
    clear hgen
    obtain ⟨g6, hg6⟩ : ∃ z, w6.heap.size = z := ⟨_, rfl⟩
    rw [hg6] at Hl6
    simp only [hg6]
    clear hg6
    go_upto_region 8 with (first
      | (go_at_call 12; refine (T12.out _ _ _ Hl6.out.ti).mono ?_; rintro e w7 ⟨rfl, hb⟩)
      | ((with_reducible show wpList _ _ _ ({ dst := _, op := Op.store _ _ _, type := _, pos := _, after := _, guard := _ } :: _) _ _); refine wpList_store_new rfl 29 _ _ rfl rfl zero32 rfl (hc zero32) 29 rfl sizeHash3 ?_))
    have HB7 := hid ((bth HB6.out hb).alloc (bth HB6.out hb).size (.cells (hc zero32) 29))
    have Hl7 := hid ((Hl6.out.later hb).new zero32)
    clear hb HB6 Hl6
    show Code.wp _ _ _ _ (w7.alloc (.cells (hc zero32) 29))
    generalize hgen : w7.alloc (.cells (hc zero32) 29) = y7 at *
    clear hgen
    obtain ⟨g7, hg7⟩ : ∃ z, w7.heap.size = z := ⟨_, rfl⟩
    rw [hg7] at Hl7
    simp only [hg7]
    clear hg7
    go_upto_region 9 with (first
      | (go_at_call 12; refine (T20.out _ _ _ Hl7.out.ti).mono ?_; rintro e w8 ⟨rfl, hb⟩)
      | ((with_reducible show wpList _ _ _ ({ dst := _, op := Op.store _ _ _, type := _, pos := _, after := _, guard := _ } :: _) _ _); refine wpList_store_new rfl 29 _ _ rfl rfl CC rfl (hc zero32) 29 (by rw [hR4]; rfl) SCC.out ?_))
    have HB8 := hid ((bth HB7.out hb).alloc (bth HB7.out hb).size (.cells (hc CC) 29))
    have Hl8 := hid ((Hl7.out.later hb).new CC)
    clear hb HB7 Hl7
    show Code.wp _ _ _ _ (w8.alloc (.cells (hc CC) 29))
    generalize hgen : w8.alloc (.cells (hc CC) 29) = y8 at *
    clear hgen
    obtain ⟨g8, hg8⟩ : ∃ z, w8.heap.size = z := ⟨_, rfl⟩
    rw [hg8] at Hl8
    simp only [hg8]
    clear hg8
    go_upto_region 10 with (first
      | (go_at_call 14; refine (R3.out _ _ _ Hl8.out.ti Hl8.out.sh).mono ?_; rintro e w9 ⟨rfl, hb⟩)
      | ((with_reducible show wpList _ _ _ ({ dst := _, op := Op.store _ _ _, type := _, pos := _, after := _, guard := _ } :: _) _ _); refine wpList_store_new rfl 29 _ _ rfl rfl DD rfl (hc zero32) 29 (by rw [hR3]; rfl) SDD.out ?_))
    have HB9 := hid ((bth HB8.out hb).alloc (bth HB8.out hb).size (.cells (hc DD) 29))
    have Hl9 := hid ((Hl8.out.later hb).new DD)
    clear hb HB8 Hl8
    show Code.wp _ _ _ _ (w9.alloc (.cells (hc DD) 29))
    generalize hgen : w9.alloc (.cells (hc DD) 29) = y9 at *
    clear hgen
    obtain ⟨g9, hg9⟩ : ∃ z, w9.heap.size = z := ⟨_, rfl⟩
    rw [hg9] at Hl9
    simp only [hg9]
    clear hg9
    go_upto_region 11 with (go_at_call 16; refine (P25.out _ _ _ Hl9.out.ti Hl9.out.sh).mono ?_; rintro e w10 ⟨⟨u10, rfl, hu⟩, hb⟩)
    have HB10 := hid (bth HB9.out hb)
    have Hl10 := hid ((Hl9.out.later hb).addS hu)
    clear hb hu HB9 Hl9
    go_upto_region 12 with (go_at_call 18; refine (Q35.out _ _ _ Hl10.out.ti Hl10.out.sh).mono ?_; rintro e w11 ⟨⟨u11, rfl, hu⟩, hb⟩)
    have HB11 := hid (bth HB10.out hb)
    have Hl11 := hid ((Hl10.out.later hb).addS hu)
    clear hb hu HB10 Hl10
    go_upto_region 13 with (go_at_call 16; refine (P26.out _ _ _ Hl11.out.ti Hl11.out.sh).mono ?_; rintro e w12 ⟨⟨u12, rfl, hu⟩, hb⟩)
    have HB12 := hid (bth HB11.out hb)
    have Hl12 := hid ((Hl11.out.later hb).addS hu)
    clear hb hu HB11 Hl11
    go_upto_region 14 with (go_at_call 16; refine (P33.out _ _ _ Hl12.out.ti Hl12.out.sh).mono ?_; rintro e w13 ⟨⟨u13, rfl, hu⟩, hb⟩)
    have HB13 := hid (bth HB12.out hb)
    have Hl13 := hid (Hl12.out.later hb)
    clear hb hu HB12 Hl12
    have hz32 : zero32.length = 32 := rfl
    have sizeHash3b : (Tryd.prog.info? 29).map (·.size) = some zero32.length := sizeHash3
    have hneZ : ¬ AB = zero32 := by intro e; rw [e] at f7; simp at f7
    have hneB := f7
    have C2 := hid (Hl13.out.elem (b := b) (o := o) (n := 5) (cap := cap) (hs := L5) (by simp) 2 A2 (by rw [HL5.out]; rfl))
    have C3 := hid (Hl13.out.elem (b := b) (o := o) (n := 5) (cap := cap) (hs := L5) (by simp) 3 A3 (by rw [HL5.out]; rfl))
    have C4 := hid (Hl13.out.elem (b := b) (o := o) (n := 5) (cap := cap) (hs := L5) (by simp) 4 A4 (by rw [HL5.out]; rfl))
    rw [show o + 2 * 32 = o + 64 by omega] at C2
    rw [show o + 3 * 32 = o + 96 by omega] at C3
    rw [show o + 4 * 32 = o + 128 by omega] at C4
    have K6 := hid (Hl13.out.cells (k := g6) (x := CD) (by simp))
    have K7 := hid (Hl13.out.cells (k := g7) (x := zero32) (by simp))
    have K8 := hid (Hl13.out.cells (k := g8) (x := CC) (by simp))
    have K9 := hid (Hl13.out.cells (k := g9) (x := DD) (by simp))
    have KA := hid (Hl13.out.cells (k := ga) (x := AB) (by simp))
    have KC := hid (Hl13.out.cells (k := gc) (x := CD) (by simp))
    have L2 := hid hl2; have L3 := hid hl3; have L4 := hid hl4; have LAB := hid hAB
    clear f7 HL5 HL5l HG T11 T12 T20 R3 P25 Q35 P26 P33
    have hzb := fun w' => Tryd.zeroHash w'
    generalize hZ : zero32 = Z at *
    clear hZ
    refine wp_region_anyC (by kernel_rfl) ?_
    intro x0 he0 hb0
    have HX0 := hid hb0
    clear he0 hb0
    show wpAnyC _ _ _ _ _ 87 #[false, false, false, false, false, false, false, false, false, false, false, false, false, false, false, false, false, false, false, false, false, false, false, false, false, false, false, false, false, false, false, false, false, false, false, false, false, false, false, false, false, false, false, false, false, false, false, false, false, false, false, false, false, false, false, false, false, false, false, false, false, false, false, false, false, false, false, false, false, false, false, false, false, false, false, false, false, false, false, false, false, false, false, false, false, false, false] _ _
    simp only [List.append_eq, List.cons_append, List.nil_append]
    as_aux_lemma =>
      refine wpAnyC_segN (fuel := 68) 19 0 (by kernel_rfl) (fun _ _ d _ _ h => by cases d <;> exact h) (by kernel_rfl) (by as_aux_lemma => kernel_rfl) ?_
      simp only [List.take_succ_cons, List.take_zero, List.drop_succ_cons, List.drop_zero]
      repeat (first
        | go_big_quiet_skip
        | (refine wpQuiet_load_hcG rfl 29 _ rfl ⟨g6, 0, none⟩ rfl CD _ (fun w' hw' => K6.out w' hw') Tryd.underlying29 rfl SCD.out ?_; simp only [Act.put, List.setIfInBounds_toArray, List.set_cons_succ, List.set_cons_zero])
        | (refine wpQuiet_load_hcG rfl 29 _ rfl ⟨gc, 0, none⟩ rfl CD _ (fun w' hw' => KC.out w' hw') Tryd.underlying29 rfl SCD.out ?_; simp only [Act.put, List.setIfInBounds_toArray, List.set_cons_succ, List.set_cons_zero])
        | (refine wpQuiet_load_hcG rfl 29 _ rfl ⟨g7, 0, none⟩ rfl Z _ (fun w' hw' => K7.out w' hw') Tryd.underlying29 rfl sizeHash3b ?_; simp only [Act.put, List.setIfInBounds_toArray, List.set_cons_succ, List.set_cons_zero])
        | (refine wpQuiet_load_hcG rfl 29 _ rfl ⟨g8, 0, none⟩ rfl CC _ (fun w' hw' => K8.out w' hw') Tryd.underlying29 rfl SCC.out ?_; simp only [Act.put, List.setIfInBounds_toArray, List.set_cons_succ, List.set_cons_zero])
        | (refine wpQuiet_load_hcG rfl 29 _ rfl ⟨ga, 0, none⟩ rfl AB _ (fun w' hw' => KA.out w' hw') Tryd.underlying29 rfl SAB.out ?_; simp only [Act.put, List.setIfInBounds_toArray, List.set_cons_succ, List.set_cons_zero])
        | (refine wpQuiet_load_hcG rfl 29 _ rfl ⟨g9, 0, none⟩ rfl DD _ (fun w' hw' => K9.out w' hw') Tryd.underlying29 rfl SDD.out ?_; simp only [Act.put, List.setIfInBounds_toArray, List.set_cons_succ, List.set_cons_zero])
        | (refine wpQuiet_load_hcG rfl 29 _ rfl ⟨b, o + 64, none⟩ rfl A2 _ (fun w' hw' => C2.out w' hw') Tryd.underlying29 rfl S2.out ?_; simp only [Act.put, List.setIfInBounds_toArray, List.set_cons_succ, List.set_cons_zero])
        | (refine wpQuiet_load_hcG rfl 29 _ rfl ⟨b, o + 96, none⟩ rfl A3 _ (fun w' hw' => C3.out w' hw') Tryd.underlying29 rfl S3.out ?_; simp only [Act.put, List.setIfInBounds_toArray, List.set_cons_succ, List.set_cons_zero])
        | (refine wpQuiet_load_hcG rfl 29 _ rfl ⟨b, o + 128, none⟩ rfl A4 _ (fun w' hw' => C4.out w' hw') Tryd.underlying29 rfl S4.out ?_; simp only [Act.put, List.setIfInBounds_toArray, List.set_cons_succ, List.set_cons_zero])
        | (refine wpQuiet_buildV (by kernel_rfl) 29 rfl (hv Z) hzb ?_; simp only [Act.put, List.setIfInBounds_toArray, List.set_cons_succ, List.set_cons_zero])
        | (go_big_quiet_want; go_big_quiet_op; first | go_big_quiet_on | (refine ⟨_, fun _ _ => rfl, ?_⟩; go_big_quiet_on)))
      refine wpQuiet_nil ?_
      simp only [segL, List.setIfInBounds_toArray, List.set_cons_succ, List.set_cons_zero]
      refine wpAnyC_enter (i := 19) (by kernel_rfl) rfl (HX0.out) (by kernel_rfl) 40 #[hv AB, hv CD] (by kernel_rfl) (hv CC) _ (N3.out _ (Hl13.out.sh.later HX0.out)) ?_
      intro x1 hbx
      (first | dsimp only [List.getElem_toArray, List.getElem_cons_succ, List.getElem_cons_zero] | dsimp (maxSteps := 10000000) only [List.getElem_toArray, List.getElem_cons_succ, List.getElem_cons_zero] | skip); (first | go_frame | simp (maxSteps := 10000000) only [Act.put, List.setIfInBounds_toArray, List.set_cons_succ, List.set_cons_zero] | skip)
      have HX1 := hid (bth HX0.out hbx)
      clear hbx
      as_aux_lemma =>
        refine wpAnyC_segN (fuel := 56) 11 20 (by kernel_rfl) (fun _ _ d _ _ h => by cases d <;> exact h) (by kernel_rfl) (by as_aux_lemma => kernel_rfl) ?_
        simp only [List.take_succ_cons, List.take_zero, List.drop_succ_cons, List.drop_zero]
        repeat (first
          | go_big_quiet_skip
          | (refine wpQuiet_load_hcG rfl 29 _ rfl ⟨g6, 0, none⟩ rfl CD _ (fun w' hw' => K6.out w' hw') Tryd.underlying29 rfl SCD.out ?_; simp only [Act.put, List.setIfInBounds_toArray, List.set_cons_succ, List.set_cons_zero])
          | (refine wpQuiet_load_hcG rfl 29 _ rfl ⟨gc, 0, none⟩ rfl CD _ (fun w' hw' => KC.out w' hw') Tryd.underlying29 rfl SCD.out ?_; simp only [Act.put, List.setIfInBounds_toArray, List.set_cons_succ, List.set_cons_zero])
          | (refine wpQuiet_load_hcG rfl 29 _ rfl ⟨g7, 0, none⟩ rfl Z _ (fun w' hw' => K7.out w' hw') Tryd.underlying29 rfl sizeHash3b ?_; simp only [Act.put, List.setIfInBounds_toArray, List.set_cons_succ, List.set_cons_zero])
          | (refine wpQuiet_load_hcG rfl 29 _ rfl ⟨g8, 0, none⟩ rfl CC _ (fun w' hw' => K8.out w' hw') Tryd.underlying29 rfl SCC.out ?_; simp only [Act.put, List.setIfInBounds_toArray, List.set_cons_succ, List.set_cons_zero])
          | (refine wpQuiet_load_hcG rfl 29 _ rfl ⟨ga, 0, none⟩ rfl AB _ (fun w' hw' => KA.out w' hw') Tryd.underlying29 rfl SAB.out ?_; simp only [Act.put, List.setIfInBounds_toArray, List.set_cons_succ, List.set_cons_zero])
          | (refine wpQuiet_load_hcG rfl 29 _ rfl ⟨g9, 0, none⟩ rfl DD _ (fun w' hw' => K9.out w' hw') Tryd.underlying29 rfl SDD.out ?_; simp only [Act.put, List.setIfInBounds_toArray, List.set_cons_succ, List.set_cons_zero])
          | (refine wpQuiet_load_hcG rfl 29 _ rfl ⟨b, o + 64, none⟩ rfl A2 _ (fun w' hw' => C2.out w' hw') Tryd.underlying29 rfl S2.out ?_; simp only [Act.put, List.setIfInBounds_toArray, List.set_cons_succ, List.set_cons_zero])
          | (refine wpQuiet_load_hcG rfl 29 _ rfl ⟨b, o + 96, none⟩ rfl A3 _ (fun w' hw' => C3.out w' hw') Tryd.underlying29 rfl S3.out ?_; simp only [Act.put, List.setIfInBounds_toArray, List.set_cons_succ, List.set_cons_zero])
          | (refine wpQuiet_load_hcG rfl 29 _ rfl ⟨b, o + 128, none⟩ rfl A4 _ (fun w' hw' => C4.out w' hw') Tryd.underlying29 rfl S4.out ?_; simp only [Act.put, List.setIfInBounds_toArray, List.set_cons_succ, List.set_cons_zero])
          | (refine wpQuiet_buildV (by kernel_rfl) 29 rfl (hv Z) hzb ?_; simp only [Act.put, List.setIfInBounds_toArray, List.set_cons_succ, List.set_cons_zero])
          | (go_big_quiet_want; go_big_quiet_op; first | go_big_quiet_on | (refine ⟨_, fun _ _ => rfl, ?_⟩; go_big_quiet_on)))
        refine wpQuiet_nil ?_
        simp only [segL, List.setIfInBounds_toArray, List.set_cons_succ, List.set_cons_zero]
        refine wpAnyC_enterG (i := 31) (by kernel_rfl) rfl (HX1.out) (by kernel_rfl) 40 #[hv AB, hv A2] (by kernel_rfl) (hv DD) _ (N4.out _ (Hl13.out.sh.later HX1.out)) ?_
        intro x2 gx3 hgx3 hbx
        have Hgx3 := hid hgx3
        clear hgx3
        (first | dsimp only [List.getElem_toArray, List.getElem_cons_succ, List.getElem_cons_zero] | dsimp (maxSteps := 10000000) only [List.getElem_toArray, List.getElem_cons_succ, List.getElem_cons_zero] | skip); (first | go_frame | simp (maxSteps := 10000000) only [Act.put, List.setIfInBounds_toArray, List.set_cons_succ, List.set_cons_zero] | skip)
        have HX2 := hid (bth HX1.out hbx)
        clear hbx
        as_aux_lemma =>
          refine wpAnyC_segN (fuel := 40) 15 32 (by kernel_rfl) (fun _ _ d _ _ h => by cases d <;> exact h) (by kernel_rfl) (by as_aux_lemma => kernel_rfl) ?_
          simp only [List.take_succ_cons, List.take_zero, List.drop_succ_cons, List.drop_zero]
          repeat (first
            | go_big_quiet_skip
            | (refine wpQuiet_load_hcG rfl 29 _ rfl ⟨g6, 0, none⟩ rfl CD _ (fun w' hw' => K6.out w' hw') Tryd.underlying29 rfl SCD.out ?_; simp only [Act.put, List.setIfInBounds_toArray, List.set_cons_succ, List.set_cons_zero])
            | (refine wpQuiet_load_hcG rfl 29 _ rfl ⟨gc, 0, none⟩ rfl CD _ (fun w' hw' => KC.out w' hw') Tryd.underlying29 rfl SCD.out ?_; simp only [Act.put, List.setIfInBounds_toArray, List.set_cons_succ, List.set_cons_zero])
            | (refine wpQuiet_load_hcG rfl 29 _ rfl ⟨g7, 0, none⟩ rfl Z _ (fun w' hw' => K7.out w' hw') Tryd.underlying29 rfl sizeHash3b ?_; simp only [Act.put, List.setIfInBounds_toArray, List.set_cons_succ, List.set_cons_zero])
            | (refine wpQuiet_load_hcG rfl 29 _ rfl ⟨g8, 0, none⟩ rfl CC _ (fun w' hw' => K8.out w' hw') Tryd.underlying29 rfl SCC.out ?_; simp only [Act.put, List.setIfInBounds_toArray, List.set_cons_succ, List.set_cons_zero])
            | (refine wpQuiet_load_hcG rfl 29 _ rfl ⟨ga, 0, none⟩ rfl AB _ (fun w' hw' => KA.out w' hw') Tryd.underlying29 rfl SAB.out ?_; simp only [Act.put, List.setIfInBounds_toArray, List.set_cons_succ, List.set_cons_zero])
            | (refine wpQuiet_load_hcG rfl 29 _ rfl ⟨g9, 0, none⟩ rfl DD _ (fun w' hw' => K9.out w' hw') Tryd.underlying29 rfl SDD.out ?_; simp only [Act.put, List.setIfInBounds_toArray, List.set_cons_succ, List.set_cons_zero])
            | (refine wpQuiet_load_hcG rfl 29 _ rfl ⟨b, o + 64, none⟩ rfl A2 _ (fun w' hw' => C2.out w' hw') Tryd.underlying29 rfl S2.out ?_; simp only [Act.put, List.setIfInBounds_toArray, List.set_cons_succ, List.set_cons_zero])
            | (refine wpQuiet_load_hcG rfl 29 _ rfl ⟨b, o + 96, none⟩ rfl A3 _ (fun w' hw' => C3.out w' hw') Tryd.underlying29 rfl S3.out ?_; simp only [Act.put, List.setIfInBounds_toArray, List.set_cons_succ, List.set_cons_zero])
            | (refine wpQuiet_load_hcG rfl 29 _ rfl ⟨b, o + 128, none⟩ rfl A4 _ (fun w' hw' => C4.out w' hw') Tryd.underlying29 rfl S4.out ?_; simp only [Act.put, List.setIfInBounds_toArray, List.set_cons_succ, List.set_cons_zero])
            | (refine wpQuiet_buildV (by kernel_rfl) 29 rfl (hv Z) hzb ?_; simp only [Act.put, List.setIfInBounds_toArray, List.set_cons_succ, List.set_cons_zero])
            | (go_big_quiet_want; go_big_quiet_op; first | go_big_quiet_on | (refine ⟨_, fun _ _ => rfl, ?_⟩; go_big_quiet_on)))
          refine wpQuiet_nil ?_
          simp only [segL, List.setIfInBounds_toArray, List.set_cons_succ, List.set_cons_zero]
          refine wpAnyC_buildHs (i := 47) (by kernel_rfl) rfl (HX2.out) (by kernel_rfl) 22 29 3 _ rfl (hv zero32) [A3, AB, A4] (by kernel_rfl) rfl (by decide) (by decide) (by intro x hx; simp at hx; rcases hx with rfl | rfl | rfl; exact L3.out; exact LAB.out; exact L4.out) Tryd.underlying22 Tryd.infoHash2 gx3 Hgx3.out ?_
          intro x3 hBx hbx
          (first | dsimp only [List.getElem_toArray, List.getElem_cons_succ, List.getElem_cons_zero] | dsimp (maxSteps := 10000000) only [List.getElem_toArray, List.getElem_cons_succ, List.getElem_cons_zero] | skip); (first | go_frame | simp (maxSteps := 10000000) only [Act.put, List.setIfInBounds_toArray, List.set_cons_succ, List.set_cons_zero] | skip)
          have HV := hid (hBx.slh rfl (by intro x hx; simp at hx; rcases hx with rfl | rfl | rfl; exact L3.out; exact LAB.out; exact L4.out) (by simp [maxLen]))
          have HX3 := hid (bth HX2.out hbx)
          clear hBx hbx
          have Sm := hid (same_any u10 _ [A3, AB, A4] [A3, AB, A4] x3 ((Hl13.out.s (u10, [A3, AB, A4]) (by simp)).below HX3.out (Nat.le_refl _)) HV.out (by simp) (by simp))
          rw [show ([A3, AB, A4] == [A3, AB, A4]) = true by simp] at Sm
          refine wpAnyC_enterG (i := 48) (by kernel_rfl) rfl (HX3.out) (by kernel_rfl) 20 #[u10, .slice (some ⟨gx3, 0, none⟩) 3 3] (by kernel_rfl) (.bool true) _ Sm.out ?_
          intro x4 gx5 hgx5 hbx
          have Hgx5 := hid hgx5
          clear hgx5
          (first | dsimp only [List.getElem_toArray, List.getElem_cons_succ, List.getElem_cons_zero] | dsimp (maxSteps := 10000000) only [List.getElem_toArray, List.getElem_cons_succ, List.getElem_cons_zero] | skip); (first | go_frame | simp (maxSteps := 10000000) only [Act.put, List.setIfInBounds_toArray, List.set_cons_succ, List.set_cons_zero] | skip)
          have HX4 := hid (bth HX3.out hbx)
          clear hbx
          clear Sm HV
          as_aux_lemma =>
            refine wpAnyC_segN (fuel := 21) 17 49 (by kernel_rfl) (fun _ _ d _ _ h => by cases d <;> exact h) (by kernel_rfl) (by as_aux_lemma => kernel_rfl) ?_
            simp only [List.take_succ_cons, List.take_zero, List.drop_succ_cons, List.drop_zero]
            repeat (first
              | go_big_quiet_skip
              | (refine wpQuiet_load_hcG rfl 29 _ rfl ⟨g6, 0, none⟩ rfl CD _ (fun w' hw' => K6.out w' hw') Tryd.underlying29 rfl SCD.out ?_; simp only [Act.put, List.setIfInBounds_toArray, List.set_cons_succ, List.set_cons_zero])
              | (refine wpQuiet_load_hcG rfl 29 _ rfl ⟨gc, 0, none⟩ rfl CD _ (fun w' hw' => KC.out w' hw') Tryd.underlying29 rfl SCD.out ?_; simp only [Act.put, List.setIfInBounds_toArray, List.set_cons_succ, List.set_cons_zero])
              | (refine wpQuiet_load_hcG rfl 29 _ rfl ⟨g7, 0, none⟩ rfl Z _ (fun w' hw' => K7.out w' hw') Tryd.underlying29 rfl sizeHash3b ?_; simp only [Act.put, List.setIfInBounds_toArray, List.set_cons_succ, List.set_cons_zero])
              | (refine wpQuiet_load_hcG rfl 29 _ rfl ⟨g8, 0, none⟩ rfl CC _ (fun w' hw' => K8.out w' hw') Tryd.underlying29 rfl SCC.out ?_; simp only [Act.put, List.setIfInBounds_toArray, List.set_cons_succ, List.set_cons_zero])
              | (refine wpQuiet_load_hcG rfl 29 _ rfl ⟨ga, 0, none⟩ rfl AB _ (fun w' hw' => KA.out w' hw') Tryd.underlying29 rfl SAB.out ?_; simp only [Act.put, List.setIfInBounds_toArray, List.set_cons_succ, List.set_cons_zero])
              | (refine wpQuiet_load_hcG rfl 29 _ rfl ⟨g9, 0, none⟩ rfl DD _ (fun w' hw' => K9.out w' hw') Tryd.underlying29 rfl SDD.out ?_; simp only [Act.put, List.setIfInBounds_toArray, List.set_cons_succ, List.set_cons_zero])
              | (refine wpQuiet_load_hcG rfl 29 _ rfl ⟨b, o + 64, none⟩ rfl A2 _ (fun w' hw' => C2.out w' hw') Tryd.underlying29 rfl S2.out ?_; simp only [Act.put, List.setIfInBounds_toArray, List.set_cons_succ, List.set_cons_zero])
              | (refine wpQuiet_load_hcG rfl 29 _ rfl ⟨b, o + 96, none⟩ rfl A3 _ (fun w' hw' => C3.out w' hw') Tryd.underlying29 rfl S3.out ?_; simp only [Act.put, List.setIfInBounds_toArray, List.set_cons_succ, List.set_cons_zero])
              | (refine wpQuiet_load_hcG rfl 29 _ rfl ⟨b, o + 128, none⟩ rfl A4 _ (fun w' hw' => C4.out w' hw') Tryd.underlying29 rfl S4.out ?_; simp only [Act.put, List.setIfInBounds_toArray, List.set_cons_succ, List.set_cons_zero])
              | (refine wpQuiet_buildV (by kernel_rfl) 29 rfl (hv Z) hzb ?_; simp only [Act.put, List.setIfInBounds_toArray, List.set_cons_succ, List.set_cons_zero])
              | (go_big_quiet_want; go_big_quiet_op; first | go_big_quiet_on | (refine ⟨_, fun _ _ => rfl, ?_⟩; go_big_quiet_on)))
            refine wpQuiet_nil ?_
            simp only [segL, List.setIfInBounds_toArray, List.set_cons_succ, List.set_cons_zero]
            refine wpAnyC_buildHs (i := 66) (by kernel_rfl) rfl (HX4.out) (by kernel_rfl) 22 29 4 _ rfl (hv zero32) [A2, A3, AB, A4] (by kernel_rfl) rfl (by decide) (by decide) (by intro x hx; simp at hx; rcases hx with rfl | rfl | rfl | rfl; exact L2.out; exact L3.out; exact LAB.out; exact L4.out) Tryd.underlying22 Tryd.infoHash2 gx5 Hgx5.out ?_
            intro x5 hBx hbx
            (first | dsimp only [List.getElem_toArray, List.getElem_cons_succ, List.getElem_cons_zero] | dsimp (maxSteps := 10000000) only [List.getElem_toArray, List.getElem_cons_succ, List.getElem_cons_zero] | skip); (first | go_frame | simp (maxSteps := 10000000) only [Act.put, List.setIfInBounds_toArray, List.set_cons_succ, List.set_cons_zero] | skip)
            have HV := hid (hBx.slh rfl (by intro x hx; simp at hx; rcases hx with rfl | rfl | rfl | rfl; exact L2.out; exact L3.out; exact LAB.out; exact L4.out) (by simp [maxLen]))
            have HX5 := hid (bth HX4.out hbx)
            clear hBx hbx
            have Sm := hid (same_any u11 _ [A2, A3, AB, A4] [A2, A3, AB, A4] x5 ((Hl13.out.s (u11, [A2, A3, AB, A4]) (by simp)).below HX5.out (Nat.le_refl _)) HV.out (by simp) (by simp))
            rw [show ([A2, A3, AB, A4] == [A2, A3, AB, A4]) = true by simp] at Sm
            refine wpAnyC_enter (i := 67) (by kernel_rfl) rfl (HX5.out) (by kernel_rfl) 20 #[u11, .slice (some ⟨gx5, 0, none⟩) 4 4] (by kernel_rfl) (.bool true) _ Sm.out ?_
            intro x6 hbx
            (first | dsimp only [List.getElem_toArray, List.getElem_cons_succ, List.getElem_cons_zero] | dsimp (maxSteps := 10000000) only [List.getElem_toArray, List.getElem_cons_succ, List.getElem_cons_zero] | skip); (first | go_frame | simp (maxSteps := 10000000) only [Act.put, List.setIfInBounds_toArray, List.set_cons_succ, List.set_cons_zero] | skip)
            have HX6 := hid (bth HX5.out hbx)
            clear hbx
            clear Sm HV
            as_aux_lemma =>
              refine wpAnyC_segN (fuel := 0) 19 68 (by kernel_rfl) (fun _ _ d _ _ h => by cases d <;> exact h) (by kernel_rfl) (by as_aux_lemma => kernel_rfl) ?_
              simp only [List.take_succ_cons, List.take_zero, List.drop_succ_cons, List.drop_zero]
              repeat (first
                | go_big_quiet_skip
                | (refine wpQuiet_load_hcG rfl 29 _ rfl ⟨g6, 0, none⟩ rfl CD _ (fun w' hw' => K6.out w' hw') Tryd.underlying29 rfl SCD.out ?_; simp only [Act.put, List.setIfInBounds_toArray, List.set_cons_succ, List.set_cons_zero])
                | (refine wpQuiet_load_hcG rfl 29 _ rfl ⟨gc, 0, none⟩ rfl CD _ (fun w' hw' => KC.out w' hw') Tryd.underlying29 rfl SCD.out ?_; simp only [Act.put, List.setIfInBounds_toArray, List.set_cons_succ, List.set_cons_zero])
                | (refine wpQuiet_load_hcG rfl 29 _ rfl ⟨g7, 0, none⟩ rfl Z _ (fun w' hw' => K7.out w' hw') Tryd.underlying29 rfl sizeHash3b ?_; simp only [Act.put, List.setIfInBounds_toArray, List.set_cons_succ, List.set_cons_zero])
                | (refine wpQuiet_load_hcG rfl 29 _ rfl ⟨g8, 0, none⟩ rfl CC _ (fun w' hw' => K8.out w' hw') Tryd.underlying29 rfl SCC.out ?_; simp only [Act.put, List.setIfInBounds_toArray, List.set_cons_succ, List.set_cons_zero])
                | (refine wpQuiet_load_hcG rfl 29 _ rfl ⟨ga, 0, none⟩ rfl AB _ (fun w' hw' => KA.out w' hw') Tryd.underlying29 rfl SAB.out ?_; simp only [Act.put, List.setIfInBounds_toArray, List.set_cons_succ, List.set_cons_zero])
                | (refine wpQuiet_load_hcG rfl 29 _ rfl ⟨g9, 0, none⟩ rfl DD _ (fun w' hw' => K9.out w' hw') Tryd.underlying29 rfl SDD.out ?_; simp only [Act.put, List.setIfInBounds_toArray, List.set_cons_succ, List.set_cons_zero])
                | (refine wpQuiet_load_hcG rfl 29 _ rfl ⟨b, o + 64, none⟩ rfl A2 _ (fun w' hw' => C2.out w' hw') Tryd.underlying29 rfl S2.out ?_; simp only [Act.put, List.setIfInBounds_toArray, List.set_cons_succ, List.set_cons_zero])
                | (refine wpQuiet_load_hcG rfl 29 _ rfl ⟨b, o + 96, none⟩ rfl A3 _ (fun w' hw' => C3.out w' hw') Tryd.underlying29 rfl S3.out ?_; simp only [Act.put, List.setIfInBounds_toArray, List.set_cons_succ, List.set_cons_zero])
                | (refine wpQuiet_load_hcG rfl 29 _ rfl ⟨b, o + 128, none⟩ rfl A4 _ (fun w' hw' => C4.out w' hw') Tryd.underlying29 rfl S4.out ?_; simp only [Act.put, List.setIfInBounds_toArray, List.set_cons_succ, List.set_cons_zero])
                | (refine wpQuiet_buildV (by kernel_rfl) 29 rfl (hv Z) hzb ?_; simp only [Act.put, List.setIfInBounds_toArray, List.set_cons_succ, List.set_cons_zero])
                | (go_big_quiet_want; go_big_quiet_op; first | go_big_quiet_on | (refine ⟨_, fun _ _ => rfl, ?_⟩; go_big_quiet_on)))
              refine wpQuiet_nil ?_
              simp only [segL, List.setIfInBounds_toArray, List.set_cons_succ, List.set_cons_zero]
              refine wpAnyC_done (by kernel_rfl) HX6.out ?_ _
              (first | dsimp only [List.getElem_toArray, List.getElem_cons_succ, List.getElem_cons_zero] | dsimp (maxSteps := 10000000) only [List.getElem_toArray, List.getElem_cons_succ, List.getElem_cons_zero] | skip); (first | go_frame | simp (maxSteps := 10000000) only [Act.put, List.setIfInBounds_toArray, List.set_cons_succ, List.set_cons_zero] | skip)
              go_wp2
              go_ret
              exact ⟨by first | rfl | (rw [hneB]; rfl) | (simp only [hneB]; rfl), bth HB13.out HX6.out⟩
end Go.Proofs.YtbpjlancjdbehaaDoor
