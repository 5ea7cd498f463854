/- speculumlaw21.Great -/
import Derived.Test.YtbpjlancjdbehaaDoorQSrvServe

set_option maxRecDepth 100000
namespace Go.Spec
open Go.RowKit
variable {P : Program} {w : World}
/-- an append of nothing to a row of the call's own -/
theorem run_append_zero (t ty e : TypeId) (i : TypeInfo) (ht : P.underlying t = some (.slice e)) (hi : P.info? e = some i) (b : Option Addr) (n cap : Nat) (hn : n ≤ cap) (a : Option Addr) (c : Nat) :
    (Builtin.append_ #[t, t] ty #[.slice b n cap, .slice a 0 c]).run P w = .ok (.slice b n cap) w := by
  cases b <;> cases a <;> simp [Builtin.append_, run_underlying ht, sizeOf, typeInfo, hi, Builtin.lenOf, Builtin.firstCells, loadCells, loadCellsFrom, storeCells, hn]
/-- an append of any row to a row of the call's own -/
theorem wpList_appS {ops : Array Oper} {rest : List Oper} {o : Oper} {a : Act} {Q : Exit → Act → World → Prop} (hgd : o.guard = none) (s x : Operand) (t : TypeId)
    (ho : o.op = .call { callee := .builtin .append, args := #[s, x], argTypes := #[t, t] })
    (base : Nat) (e : TypeId) (i : TypeInfo) (z : Value) (size bytes : Nat) (ht : P.underlying t = some (.slice e)) (hi : P.info? e = some i) (hz : i.zero = some z) (hsize : i.size = size) (hby : i.bytes = bytes) (hzs : z.cells.size = size) (hsz : 0 < size)
    (v : Value) (m : Nat) (xs : List Value) (hs : a.eval s = v) (hown : w.ownsRow base e size v m xs) (ua : Option Addr) (n uc : Nat) (hx : a.eval x = .slice ua n uc) (css : List (List Value)) (hn : css.length = n) (hat : SlAt w size (.slice ua n uc) css) (hone : ∀ u ∈ css.flatten, u.oneCell' = true) (hl : m + n ≤ maxLen) (hb : (m + n) * bytes ≤ 140737488355328) (hbase : base ≤ w.heap.size)
    (h : ∀ v' w', w'.ownsRow base e size v' (m + n) (xs ++ css.flatten) → Below base w w' → wpList P ops Q rest (a.put o.dst v') w') : wpList P ops Q (o :: rest) a w := by
  have hfl : css.flatten.length = n * size := by rw [flatten_lenG hat.sizes, hn]
  by_cases h0 : 0 < n
  · obtain ⟨ad, rfl⟩ : ∃ ad, ua = some ad := by
      obtain ⟨b, o, ha, _⟩ := hat.at (i := 0) (cs := css[0]) (List.getElem?_eq_getElem (by omega))
      exact ⟨_, ha⟩
    refine wpList_app hgd s x t ho base e i z size bytes ht hi hz hsize hby hzs hsz v m xs hs hown ad n uc css.flatten hx hfl hat.flat hone hl hb hbase ?_
    intro v' w' h1 h2 h3
    exact h v' w' h1 ((Below.refl _ w).grown h2 hbase (fun q hq => (hown.lt q hq).1))
  · obtain rfl : n = 0 := by omega
    have hp : css = [] := List.eq_nil_of_length_eq_zero hn
    subst hp
    obtain ⟨b, cap, rfl, hcap⟩ := ownsRow_form hown
    refine wpList_plain hgd fun _ hK => ?_
    have hr := run_append_zero (P := P) (w := w) t o.type e i ht hi b m cap hcap ua uc
    unfold Oper.wp execOp
    simp only [ho, resolve, invoke, builtin, Sem.run_bind, Sem.run_pure, Result.andThen_ok, List.map_toArray, List.map_cons, List.map_nil, hs, hx, hr]
    exact hK _ _ (h _ _ (by simpa using hown) (Below.refl _ _))
end Go.Spec
namespace Go.Proofs.YtbpjlancjdbehaaDoor
open Go.RowKit Go.Spec
structure SrcMid (S : Src) : Prop where
  e1 : S.entries.length ≤ 1048576
  e2 : ∀ t ∈ S.entries, t.length ≤ 1048576
  l1 : S.leaves.length ≤ 1048576
  h1 : S.head.length ≤ 1048576
  f1 : S.fork.length ≤ 1048576
/-- what Great lets pass -/
def Lean21 (S : Src) (hd fd : List Sg) : Prop := SrcSmall S ∧ ∀ d ∈ hd ++ fd, d.path.length ≤ 10 ∧ d.sig.length ≤ 17000
set_option maxHeartbeats 8000000 in
theorem great21_any (S : Src) (ve vl vh vf : Value) (hd fd : List Sg) (w : World) (hX : SrcIn w S ve vl vh vf hd fd) (hs : SrcMid S) :
    Calls Tryd.prog 28 #[.agg (srcC ve vl vh vf)] w fun e w' => (∃ b, e = .returned (.bool b) ∧ (b = false → Lean21 S hd fd) ∧ (b = true → ¬ Lean21 S hd fd)) ∧ Below w.heap.size w w' := by
  obtain ⟨j0, hj0, hz0, hz1, hz2⟩ := info_parts Tryd.infoSignedS
  obtain ⟨ea, eac, rfl, _⟩ := hX.entries.form
  obtain ⟨la, lac, rfl, _⟩ := hX.leaves.formH
  obtain ⟨ha, hac, rfl, _⟩ := hX.head.form
  obtain ⟨fa, fac, rfl, _⟩ := hX.fork.form
  have l1 := hs.e1; have l2 := hs.l1
  have l3 : hd.length ≤ 1048576 := by have := hs.h1; rw [← hX.hk, List.length_map] at this; exact this
  have l4 : fd.length ≤ 1048576 := by have := hs.f1; rw [← hX.fk, List.length_map] at this; exact this
  have HX := hid hX; have HS := hid hs; clear hX hs
  go_enter Tryd.func28, Tryd.ntmps28
  go_upto_region 1 with fail
  refine wp_world (fun W => Blk W w.heap.size (srcC (.slice ea S.entries.length eac) (.slice la S.leaves.length lac) (.slice ha hd.length hac) (.slice fa fd.length fac)) 59 ∧ Below w.heap.size w W) ⟨Blk.new _ _ _, (Below.refl _ w).alloc (Nat.le_refl _) _⟩ ?_
  rintro w0 ⟨hB0, hb0⟩
  have a0 : w0.cell? ⟨w.heap.size, 0, none⟩ = some (.slice ea S.entries.length eac) := Blk.cell hB0 0
  have HX0 := hid (HX.out.below hb0)
  have HB0 := hid hB0
  have Hb0 := hid hb0
  clear hB0 hb0
  go_wp2
  go_loopw [3] (fun i wr => ∃ k : Nat, k ≤ S.entries.length ∧ i = .int .i64 k ∧ (∀ t ∈ S.entries.take k, t.length ≤ 300) ∧ wr = w0) (fun i _ => S.entries.length - (intOf i).toNat)
  case atStart => exact ⟨0, by omega, rfl, by simp, rfl⟩
  case round =>
    obtain ⟨k, hk, rfl, htk, rfl⟩ := hrel
    have Htk := hid htk; clear htk
    by_cases hlt : k < S.entries.length
    · obtain ⟨b, o, rfl, hbl, hcell⟩ := HX0.out.entries.at hlt
      have hkI : (k : Int) < (S.entries.length : Int) := by omega
      have Htk2 := hid (show S.entries.take (k + 1) = S.entries.take k ++ [S.entries[k]] from List.take_succ_eq_append_getElem hlt)
      have hone := HS.out.e2 _ (List.getElem_mem hlt)
      have Hbad := hid (show ¬ S.entries[k].length ≤ 300 → ¬ Lean21 S hd fd from fun h hL => h (hL.1.e2 _ (List.getElem_mem hlt)))
      generalize S.entries[k] = t at *
      by_cases h3 : t.length ≤ 300
      · have d1 : decide ((300 : Int) < (t.length : Int)) = false := decide_eq_false (by omega)
        have H3 := hid h3; clear h3
        go_wp2
        go_roundw
        case rel =>
          refine ⟨k + 1, by omega, by go_num, ?_, trivial⟩
          rw [Htk2.out]
          intro y hy
          rw [List.mem_append, List.mem_singleton] at hy
          rcases hy with hy | rfl
          · exact Htk.out y hy
          · exact H3.out
        case measure => simp [intOf]; omega
      · have d1 : decide ((300 : Int) < (t.length : Int)) = true := decide_eq_true (by omega)
        have Hn := hid (Hbad.out h3)
        clear h3
        go_wp2
        go_ret
        exact ⟨⟨true, rfl, fun h => (by cases h), fun _ => Hn.out⟩, Hb0.out⟩
    · obtain rfl : k = S.entries.length := by omega
      have He := hid (show ∀ t ∈ S.entries, t.length ≤ 300 by have := Htk.out; rw [List.take_length] at this; exact this)
      clear hlt Htk
      go_upto_region 6 with fail
      clear a0
      refine wp_region_anyC (by kernel_rfl) ?_
      intro x0 he0 hbx0
      have Hc0 := hid hbx0
      clear hbx0 he0
      show wpAnyC _ _ _ _ _ 7 (Array.replicate 7 false) _ _
      refine wpAnyC_take (i := 0) (v := .pointer (some ⟨w.heap.size, 2, none⟩)) rfl (by kernel_rfl) (by kernel_rfl) (by kernel_rfl) (fun _ _ _ h => h) (Or.inl ⟨by kernel_rfl, ?_⟩) ?_
      · intro w _
        go_simp
        try exact IntWalk.i64_in _ (by omega)
        try omega
      (first | dsimp only [List.getElem_toArray, List.getElem_cons_succ, List.getElem_cons_zero] | dsimp (maxSteps := 10000000) only [List.getElem_toArray, List.getElem_cons_succ, List.getElem_cons_zero] | skip); (first | go_frame | simp (maxSteps := 10000000) only [Act.put, List.setIfInBounds_toArray, List.set_cons_succ, List.set_cons_zero] | skip)
      refine wpAnyC_take (i := 1) (v := .slice ha hd.length hac) rfl (by kernel_rfl) (by kernel_rfl) (by kernel_rfl) (fun _ _ _ h => h) (YieldsW.load_one (by kernel_rfl) 57 _ rfl ⟨w.heap.size, 2, none⟩ (by kernel_rfl) (.slice ha hd.length hac) _ (fun _ hw => Blk.cell (HB0.out.later hw) 2) Tryd.underlying57 rfl) ?_
      (first | dsimp only [List.getElem_toArray, List.getElem_cons_succ, List.getElem_cons_zero] | dsimp (maxSteps := 10000000) only [List.getElem_toArray, List.getElem_cons_succ, List.getElem_cons_zero] | skip); (first | go_frame | simp (maxSteps := 10000000) only [Act.put, List.setIfInBounds_toArray, List.set_cons_succ, List.set_cons_zero] | skip)
      refine wpAnyC_take (i := 3) (v := .pointer (some ⟨w.heap.size, 3, none⟩)) rfl (by kernel_rfl) (by kernel_rfl) (by kernel_rfl) (fun _ _ _ h => h) (Or.inl ⟨by kernel_rfl, ?_⟩) ?_
      · intro w _
        go_simp
        try exact IntWalk.i64_in _ (by omega)
        try omega
      (first | dsimp only [List.getElem_toArray, List.getElem_cons_succ, List.getElem_cons_zero] | dsimp (maxSteps := 10000000) only [List.getElem_toArray, List.getElem_cons_succ, List.getElem_cons_zero] | skip); (first | go_frame | simp (maxSteps := 10000000) only [Act.put, List.setIfInBounds_toArray, List.set_cons_succ, List.set_cons_zero] | skip)
      refine wpAnyC_take (i := 4) (v := .slice fa fd.length fac) rfl (by kernel_rfl) (by kernel_rfl) (by kernel_rfl) (fun _ _ _ h => h) (YieldsW.load_one (by kernel_rfl) 57 _ rfl ⟨w.heap.size, 3, none⟩ (by kernel_rfl) (.slice fa fd.length fac) _ (fun _ hw => Blk.cell (HB0.out.later hw) 3) Tryd.underlying57 rfl) ?_
      (first | dsimp only [List.getElem_toArray, List.getElem_cons_succ, List.getElem_cons_zero] | dsimp (maxSteps := 10000000) only [List.getElem_toArray, List.getElem_cons_succ, List.getElem_cons_zero] | skip); (first | go_frame | simp (maxSteps := 10000000) only [Act.put, List.setIfInBounds_toArray, List.set_cons_succ, List.set_cons_zero] | skip)
      refine wpAnyC_forced (i := 2) (by kernel_rfl) rfl (Hc0.out) ?_
      (first | dsimp only [List.getElem_toArray, List.getElem_cons_succ, List.getElem_cons_zero] | dsimp (maxSteps := 10000000) only [List.getElem_toArray, List.getElem_cons_succ, List.getElem_cons_zero] | skip); (first | go_frame | simp (maxSteps := 10000000) only [Act.put, List.setIfInBounds_toArray, List.set_cons_succ, List.set_cons_zero] | skip)
      refine wpList_cloneS rfl _ _ 57 rfl 92 j0 (.agg (sgA 0 zero32 0 [] (.slice none 0 0))) 36 88 Tryd.underlying57 hj0 hz0 hz1 hz2 rfl (by decide) rfl ha hd.length hac rfl (hd.map Sg.L) (by rw [List.length_map]) ((HX0.out.head.below Hc0.out).at_) (sgL_one _) (by unfold maxLen; omega) (by omega) ?_
      intro v6 w6 hown6 hb6
      have Hc6 := hid (bth Hc0.out hb6)
      have Hown6 := hid hown6
      have Hsz := hid hb6.size
      clear hown6 hb6
      refine wpList_nil ?_
      show wpAnyC _ _ _ _ _ _ _ _ _
      (first | dsimp only [List.getElem_toArray, List.getElem_cons_succ, List.getElem_cons_zero] | dsimp (maxSteps := 10000000) only [List.getElem_toArray, List.getElem_cons_succ, List.getElem_cons_zero] | skip); (first | go_frame | simp (maxSteps := 10000000) only [Act.put, List.setIfInBounds_toArray, List.set_cons_succ, List.set_cons_zero] | skip)
      refine wpAnyC_forced (i := 5) (by kernel_rfl) rfl (Hc6.out) ?_
      (first | dsimp only [List.getElem_toArray, List.getElem_cons_succ, List.getElem_cons_zero] | dsimp (maxSteps := 10000000) only [List.getElem_toArray, List.getElem_cons_succ, List.getElem_cons_zero] | skip); (first | go_frame | simp (maxSteps := 10000000) only [Act.put, List.setIfInBounds_toArray, List.set_cons_succ, List.set_cons_zero] | skip)
      refine wpList_appS rfl _ _ 57 rfl x0.heap.size 92 j0 (.agg (sgA 0 zero32 0 [] (.slice none 0 0))) 36 88 Tryd.underlying57 hj0 hz0 hz1 hz2 rfl (by decide) v6 hd.length (hd.map Sg.L).flatten rfl Hown6.out fa fd.length fac rfl (fd.map Sg.L) (by rw [List.length_map]) ((HX0.out.fork.below Hc6.out).at_) (sgL_one _) (by unfold maxLen; omega) (by omega) Hsz.out ?_
      intro v7 w7 hown7 hb7
      have Hc7 := hid (Hc6.out.trans (hb7.mono Hc0.out.size))
      have HU := hid (show SgsAt w7 v7 (hd ++ fd) from SgsAt.of_owns (base := x0.heap.size) (e := 92) (by unfold sgF; rw [List.map_append, List.flatten_append, List.length_append]; exact hown7) (fun d hd' => by
        rcases List.mem_append.1 hd' with h | h
        · exact (HX0.out.head.ok d h).below Hc7.out
        · exact (HX0.out.fork.ok d h).below Hc7.out))
      obtain ⟨va, vc, rfl, _⟩ := ownsRow_form hown7
      clear hown7 hb7 Hown6 Hsz Hc6 Hc0
      refine wpList_nil ?_
      show wpAnyC _ _ _ _ _ _ _ _ _
      (first | dsimp only [List.getElem_toArray, List.getElem_cons_succ, List.getElem_cons_zero] | dsimp (maxSteps := 10000000) only [List.getElem_toArray, List.getElem_cons_succ, List.getElem_cons_zero] | skip); (first | go_frame | simp (maxSteps := 10000000) only [Act.put, List.setIfInBounds_toArray, List.set_cons_succ, List.set_cons_zero] | skip)
      refine wpAnyC_take (i := 6) (v := .slice va (hd.length + fd.length) vc) rfl (by kernel_rfl) (by kernel_rfl) (by kernel_rfl) (fun _ _ _ h => h) (Or.inl ⟨by kernel_rfl, ?_⟩) ?_
      · intro w _
        go_simp
        try exact IntWalk.i64_in _ (by omega)
        try omega
      (first | dsimp only [List.getElem_toArray, List.getElem_cons_succ, List.getElem_cons_zero] | dsimp (maxSteps := 10000000) only [List.getElem_toArray, List.getElem_cons_succ, List.getElem_cons_zero] | skip); (first | go_frame | simp (maxSteps := 10000000) only [Act.put, List.setIfInBounds_toArray, List.set_cons_succ, List.set_cons_zero] | skip)
      refine wpAnyC_done (by kernel_rfl) Hc7.out ?_ _
      (first | dsimp only [List.getElem_toArray, List.getElem_cons_succ, List.getElem_cons_zero] | dsimp (maxSteps := 10000000) only [List.getElem_toArray, List.getElem_cons_succ, List.getElem_cons_zero] | skip); (first | go_frame | simp (maxSteps := 10000000) only [Act.put, List.setIfInBounds_toArray, List.set_cons_succ, List.set_cons_zero] | skip)
      obtain ⟨ds, hds⟩ : ∃ ds, hd ++ fd = ds := ⟨_, rfl⟩
      have hdl : hd.length + fd.length = ds.length := by rw [← hds, List.length_append]
      rw [hds] at HU
      rw [hdl] at HU ⊢
      have hdm : ds.length ≤ 2097152 := by omega
      have HB7 := hid (HB0.out.later Hc7.out)
      have Hb7 := hid (bth Hb0.out Hc7.out)
      have HDS := hid hds
      clear hds hdl HB0 HX0 Hc7
      go_wp2
      go_loopw [5] (fun i wr => ∃ k : Nat, k ≤ ds.length ∧ i = .int .i64 k ∧ (∀ d ∈ ds.take k, d.path.length ≤ 10 ∧ d.sig.length ≤ 17000) ∧ wr = w7) (fun i _ => ds.length - (intOf i).toNat)
      case atStart => exact ⟨0, by omega, rfl, by simp, rfl⟩
      case round =>
        obtain ⟨k, hk, rfl, htk, rfl⟩ := hrel
        have Htk := hid htk; clear htk
        by_cases hlt : k < ds.length
        · obtain ⟨b, o, rfl, hbl, hcell⟩ := HU.out.at_.at (i := k) (cs := (ds[k]).L) (by simp [hlt])
          have hraw := HU.out.ok _ (List.getElem_mem hlt)
          have Htk2 := hid (show ds.take (k + 1) = ds.take k ++ [ds[k]] from List.take_succ_eq_append_getElem hlt)
          have Hbad := hid (show ¬ (ds[k].path.length ≤ 10 ∧ ds[k].sig.length ≤ 17000) → ¬ Lean21 S hd fd from fun h hL => h (hL.2 _ (by rw [HDS.out]; exact List.getElem_mem hlt)))
          have hkI : (k : Int) < (ds.length : Int) := by omega
          generalize ds[k] = d at *
          have hr := hraw.r32
          have hsl := hraw.sl; have hpl := hraw.pl
          have hp : wr.cell? ⟨b, o + k * 36 + 35, none⟩ = some (.slice d.a d.path.length d.cap) := by
            have := hcell.2 35 (.slice d.a d.path.length d.cap) (by show (sgA d.z d.root d.i d.sig d.p).toList[35]? = _; rw [Array.getElem?_toList]; exact sgA_get35 hr)
            rwa [Addr.add_lit] at this
          have hs : wr.cell? ⟨b, o + k * 36 + 34, none⟩ = some (sv d.sig) := by
            have := hcell.2 34 (sv d.sig) (by show (sgA d.z d.root d.i d.sig d.p).toList[34]? = _; rw [Array.getElem?_toList]; exact sgA_get34 hr)
            rwa [Addr.add_lit] at this
          clear hcell hraw
          by_cases h3 : d.path.length ≤ 10
          · have d1 : decide ((10 : Int) < (d.path.length : Int)) = false := decide_eq_false (by omega)
            by_cases h4 : d.sig.length ≤ 17000
            · have d2 : decide ((17000 : Int) < (d.sig.length : Int)) = false := decide_eq_false (by omega)
              have H3 := hid (And.intro h3 h4); clear h3 h4
              go_wp2
              go_roundw
              case rel =>
                refine ⟨k + 1, by omega, by go_num, ?_, trivial⟩
                rw [Htk2.out]
                intro y hy
                rw [List.mem_append, List.mem_singleton] at hy
                rcases hy with hy | rfl
                · exact Htk.out y hy
                · exact H3.out
              case measure => simp [intOf]; omega
            · have d2 : decide ((17000 : Int) < (d.sig.length : Int)) = true := decide_eq_true (by omega)
              have Hn := hid (Hbad.out (fun h => h4 h.2))
              clear h3 h4
              go_wp2
              go_ret
              exact ⟨⟨true, rfl, fun h => (by cases h), fun _ => Hn.out⟩, Hb7.out⟩
          · have d1 : decide ((10 : Int) < (d.path.length : Int)) = true := decide_eq_true (by omega)
            have Hn := hid (Hbad.out (fun h => h3 h.1))
            clear h3
            go_wp2
            go_ret
            exact ⟨⟨true, rfl, fun h => (by cases h), fun _ => Hn.out⟩, Hb7.out⟩
        · obtain rfl : k = ds.length := by omega
          have Hd := hid (show ∀ d ∈ hd ++ fd, d.path.length ≤ 10 ∧ d.sig.length ≤ 17000 by rw [HDS.out]; have := Htk.out; rw [List.take_length] at this; exact this)
          clear hlt Htk
          have q0 : wr.cell? ⟨w.heap.size, 0, none⟩ = some (.slice ea S.entries.length eac) := Blk.cell HB7.out 0
          have q1 : wr.cell? ⟨w.heap.size, 1, none⟩ = some (.slice la S.leaves.length lac) := Blk.cell HB7.out 1
          have q2 : wr.cell? ⟨w.heap.size, 2, none⟩ = some (.slice ha hd.length hac) := Blk.cell HB7.out 2
          have q3 : wr.cell? ⟨w.heap.size, 3, none⟩ = some (.slice fa fd.length fac) := Blk.cell HB7.out 3
          have k1 := HX.out.hk; have k2 := HX.out.fk
          by_cases h60 : S.entries.length ≤ 60
          · have d1 : decide ((60 : Int) < (S.entries.length : Int)) = false := decide_eq_false (by omega)
            by_cases h80 : S.leaves.length ≤ 80
            · have d2 : decide ((80 : Int) < (S.leaves.length : Int)) = false := decide_eq_false (by omega)
              by_cases h3 : hd.length ≤ 3
              · have d3 : decide ((3 : Int) < (hd.length : Int)) = false := decide_eq_false (by omega)
                by_cases h4 : fd.length ≤ 3
                · have d4 : decide ((3 : Int) < (fd.length : Int)) = false := decide_eq_false (by omega)
                  have HF := hid (show Lean21 S hd fd from ⟨⟨h60, He.out, h80, by rw [← k1, List.length_map]; exact h3, by rw [← k2, List.length_map]; exact h4⟩, Hd.out⟩)
                  clear h60 h80 h3 h4 k1 k2
                  go_wp2
                  go_ret
                  exact ⟨⟨false, rfl, fun _ => HF.out, fun h => (by cases h)⟩, Hb7.out⟩
                · have d4 : decide ((3 : Int) < (fd.length : Int)) = true := decide_eq_true (by omega)
                  have Hn := hid (show ¬ Lean21 S hd fd from fun hL => h4 (by have := hL.1.f1; rw [← k2, List.length_map] at this; exact this))
                  clear h60 h80 h3 h4 k1 k2
                  go_wp2
                  go_ret
                  exact ⟨⟨true, rfl, fun h => (by cases h), fun _ => Hn.out⟩, Hb7.out⟩
              · have d3 : decide ((3 : Int) < (hd.length : Int)) = true := decide_eq_true (by omega)
                have Hn := hid (show ¬ Lean21 S hd fd from fun hL => h3 (by have := hL.1.h1; rw [← k1, List.length_map] at this; exact this))
                clear h60 h80 h3 k1 k2
                go_wp2
                go_ret
                exact ⟨⟨true, rfl, fun h => (by cases h), fun _ => Hn.out⟩, Hb7.out⟩
            · have d2 : decide ((80 : Int) < (S.leaves.length : Int)) = true := decide_eq_true (by omega)
              have Hn := hid (show ¬ Lean21 S hd fd from fun hL => h80 hL.1.l1)
              clear h60 h80 k1 k2
              go_wp2
              go_ret
              exact ⟨⟨true, rfl, fun h => (by cases h), fun _ => Hn.out⟩, Hb7.out⟩
          · have d1 : decide ((60 : Int) < (S.entries.length : Int)) = true := decide_eq_true (by omega)
            have Hn := hid (show ¬ Lean21 S hd fd from fun hL => h60 hL.1.e1)
            clear h60 k1 k2
            go_wp2
            go_ret
            exact ⟨⟨true, rfl, fun h => (by cases h), fun _ => Hn.out⟩, Hb7.out⟩
/-- is a source more than is gone through? -/
def gB (S : Src) (hd fd : List Sg) : Bool := !(decide (S.entries.length ≤ 60) && S.entries.all (fun t => decide (t.length ≤ 300)) && decide (S.leaves.length ≤ 80) && decide (S.head.length ≤ 3) && decide (S.fork.length ≤ 3) && (hd ++ fd).all (fun d => decide (d.path.length ≤ 10) && decide (d.sig.length ≤ 17000)))
theorem gB_iff (S : Src) (hd fd : List Sg) : gB S hd fd = false ↔ Lean21 S hd fd := by
  simp only [gB, Bool.not_eq_false', Bool.and_eq_true, decide_eq_true_eq, List.all_eq_true]
  constructor
  · rintro ⟨⟨⟨⟨⟨a, b⟩, c⟩, d⟩, e⟩, f⟩
    exact ⟨⟨a, b, c, d, e⟩, f⟩
  · rintro ⟨⟨a, b, c, d, e⟩, f⟩
    exact ⟨⟨⟨⟨⟨a, b⟩, c⟩, d⟩, e⟩, f⟩
theorem gB_false {S : Src} {hd fd : List Sg} (h : gB S hd fd = false) : SrcSmall S := ((gB_iff S hd fd).1 h).1
theorem great21_det (S : Src) (ve vl vh vf : Value) (hd fd : List Sg) (w : World) (hX : SrcIn w S ve vl vh vf hd fd) (hs : SrcMid S) :
    Calls Tryd.prog 28 #[.agg (srcC ve vl vh vf)] w fun e w' => e = .returned (.bool (gB S hd fd)) ∧ Below w.heap.size w w' :=
  (great21_any S ve vl vh vf hd fd w hX hs).mono fun e w' ⟨⟨b, he, h1, h2⟩, hb⟩ => by
    refine ⟨?_, hb⟩
    rw [he]
    congr 2
    cases b with
    | false => exact ((gB_iff S hd fd).2 (h1 rfl)).symm
    | true =>
      cases hg : gB S hd fd with
      | true => rfl
      | false => exact absurd ((gB_iff S hd fd).1 hg) (h2 rfl)
end Go.Proofs.YtbpjlancjdbehaaDoor
