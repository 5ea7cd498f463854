/- messages.GetReply -/
import Derived.Test.YtjpnlnbpaecciaaQMsgSame
import Derived.Test.YtjpnlnbpaecciaaQMsgSigned
import Derived.Test.YtjpnlnbpaecciaaQReader
import Derived.Test.YtjpnlnbpaecciaaQRqGet

set_option maxRecDepth 100000
namespace Go.Spec
open Go.RowKit
theorem wpList_load_oneG {P : Program} {w : World} {ops : Array Oper} {rest : List Oper} {o : Oper} {a : Act} {Q : Exit → Act → World → Prop} (hgd : o.guard = none) (ty : TypeId) (x : Operand) (ho : o.op = .load ty x)
    (ad : Addr) (hx : a.eval x = .pointer (some ad)) (v : Value) (d : TypeDesc) (hc : w.cell? ad = some v) (hu : P.underlying ty = some d) (hd : (match d with | .struct _ | .array _ _ => true | _ => false) = false)
    (h : wpList P ops Q rest (a.put o.dst v) w) : wpList P ops Q (o :: rest) a w :=
  wpList_plain hgd fun _ hK => by
    have hagg : (isAgg ty).run P w = .ok false w := by
      unfold isAgg
      rw [Sem.run_bind, run_underlying hu w]
      cases d <;> simp_all
    have hl : (load ad).run P w = .ok v w := by
      show (Sem.load Mode.plain ad Sem.pure).run P w = _
      unfold Sem.run
      simp [hc, Sem.run, go_sem]
    unfold Oper.wp execOp
    simp only [ho, hx, Instr.loadAt, Instr.sureAddr, Sem.run_bind, Sem.run_pure, Result.andThen_ok, loadVar, hagg, Bool.false_eq_true, if_false, hl]
    exact hK _ _ h
end Go.Spec
namespace Go.Proofs.Ytjpnlnbpaecciaa
open Go.RowKit Go.Spec
theorem Try.sizeRp : (Try.prog.info? 51).map (·.size) = some 6 := by kernel_rfl
theorem Try.infoStr : (Try.prog.info? 9).map (fun i => (i.zero, i.size, i.bytes)) = some (some (.string ⟨#[]⟩), 1, 16) := by kernel_rfl
theorem Try.infoStr2 : (Try.prog.info? 9).map (fun i => (i.zero, i.size)) = some (some (.string ⟨#[]⟩), 1) := by kernel_rfl
def zeroRp : RpK := ⟨0, 0, 0, [], [], []⟩
def nilV : Value := .slice none 0 0
def rpZ : Array Value := rpC zeroRp nilV nilV nilV
theorem rpC_one (x : RpK) (vh ve vp : Value) (h1 : vh.oneCell' = true) (h2 : ve.oneCell' = true) (h3 : vp.oneCell' = true) : ∀ v ∈ (rpC x vh ve vp).toList, v.oneCell' = true := by
  intro v hv
  simp [rpC] at hv
  rcases hv with rfl | rfl | rfl | rfl | rfl | rfl
  · rfl
  · rfl
  · rfl
  · exact h1
  · exact h2
  · exact h3
/-- what GetReply answers -/
structure RPA (l : List UInt8) (e : Ending) (w w' : World) : Prop where
  no : getRp l = none → e = .returned (.tuple #[.agg rpZ, .int .i64 10])
  yes : ∀ y, getRp l = some y → ∃ vh ve vp ds, e = .returned (.tuple #[.agg (rpC y vh ve vp), .int .i64 0]) ∧ RpIn w' y vh ve vp ds
  below : Below w.heap.size w w'
theorem RPA.mk_no {l : List UInt8} {e : Ending} {w w' : World} (h : getRp l = none) (he : e = .returned (.tuple #[.agg rpZ, .int .i64 10])) (hb : Below w.heap.size w w') : RPA l e w w' :=
  ⟨fun _ => he, fun y h' => (by rw [h] at h'; cases h'), hb⟩
/-- a row that lies behind a block -/
def Far (B : Nat) (v : Value) : Prop := ∀ ad n c, v = .slice (some ad) n c → B < ad.block
theorem Far.nil (B : Nat) : Far B nilV := fun ad n c h => by unfold nilV at h; cases h
theorem SlAt.but {w w' : World} {size r : Nat} {v : Value} {css : List (List Value)} (h : SlAt w size v css) (hb : But r w w') (hf : Far r v) : SlAt w' size v css := by
  obtain ⟨a, cap, hv, hc, hs, hr⟩ := h
  refine ⟨a, cap, hv, hc, hs, fun i cs hi => ?_⟩
  obtain ⟨b, o, ha, hbl, hcell⟩ := hr i cs hi
  have hlt := hf ⟨b, o, none⟩ _ _ (by rw [hv, ha])
  refine ⟨b, o, ha, Nat.lt_of_lt_of_le hbl hb.size, fun j u hj => ?_⟩
  rw [← hcell j u hj]
  have hblk := hb.block b hbl (fun e => by injection e with e; simp only at hlt; omega)
  unfold World.cell?
  rw [hblk]
structure RpFar (B : Nat) (vh ve vp : Value) (ds : List Sg) : Prop where
  heads : Far B vh
  entries : Far B ve
  proof : Far B vp
  path : ∀ d ∈ ds, ∀ ad, d.a = some ad → B < ad.block
theorem RpIn.but {w w' : World} {x : RpK} {vh ve vp : Value} {ds : List Sg} {r B : Nat} (h : RpIn w x vh ve vp ds) (hb : But r w w') (hf : RpFar B vh ve vp ds) (hr : r ≤ B) : RpIn w' x vh ve vp ds :=
  ⟨⟨SlAt.but h.heads.at_ hb (fun ad n c e => Nat.lt_of_le_of_lt hr (hf.heads ad n c e)), fun d hd => sgIn_but (h.heads.ok d hd) hb (fun ad had => Nat.lt_of_le_of_lt hr (hf.path d hd ad had))⟩, h.keys,
    SlAt.but h.entries hb (fun ad n c e => Nat.lt_of_le_of_lt hr (hf.entries ad n c e)), SlAt.but h.proof hb (fun ad n c e => Nat.lt_of_le_of_lt hr (hf.proof ad n c e))⟩
theorem rpZ_one : ∀ v ∈ rpZ.toList, v.oneCell' = true := rpC_one _ _ _ _ rfl rfl rfl
theorem sgs1 {w : World} {g t : Nat} {d : Sg} (hL : Blk w g (sgA d.z d.root d.i d.sig d.p) t) (h1 : d.In w) : SgsAt w (.slice (some ⟨g, 0, none⟩) 1 1) [d] := by
  have h := Blk.owns hL (base := 0) (size := 36) (n := 1) (Nat.zero_le _) (by unfold maxLen; omega) (by rw [sgA_size h1.r32])
  have e : sgF [d] = (sgA d.z d.root d.i d.sig d.p).toList := by simp [sgF, Sg.L]
  rw [← e] at h
  exact SgsAt.of_owns h (by simpa using h1)
theorem sgsTwo {w : World} {g t : Nat} {d1 d2 : Sg} (hL : Blk w g (d1.L ++ d2.L).toArray t) (h1 : d1.In w) (h2 : d2.In w) : SgsAt w (.slice (some ⟨g, 0, none⟩) 2 2) [d1, d2] := by
  have hs : (d1.L ++ d2.L).toArray.size = 2 * 36 := by rw [List.size_toArray, List.length_append, Sg.L_len h1.r32, Sg.L_len h2.r32]
  have ho := Blk.owns hL (base := 0) (size := 36) (n := 2) (Nat.zero_le _) (by decide) hs
  rw [List.toList_toArray] at ho
  have he : sgF [d1, d2] = d1.L ++ d2.L := by unfold sgF; simp
  refine SgsAt.of_owns (base := 0) (e := t) (by rw [he]; exact ho) ?_
  intro d hd
  simp only [List.mem_cons, List.not_mem_nil, or_false] at hd
  rcases hd with rfl | rfl
  · exact h1
  · exact h2
theorem build2g (d d2 : Sg) (h : d.root.length = 32) (h2 : d2.root.length = 32) (w : World) : (Instr.buildSlice 24 2 #[(0, .agg (sgA d.z d.root d.i d.sig d.p)), (1, .agg (sgA d2.z d2.root d2.i d2.sig d2.p))]).run Try.prog w = .ok (.slice (some ⟨w.heap.size, 0, none⟩) 2 2) (w.alloc (.cells (d.L ++ d2.L).toArray 41)) := by
  obtain ⟨f, hf⟩ := list32 d.root h
  obtain ⟨f2, hf2⟩ := list32 d2.root h2
  obtain ⟨z, root, i, sig, path, a, cap⟩ := d
  obtain ⟨z2, root2, i2, sig2, path2, a2, cap2⟩ := d2
  simp only at hf hf2
  subst hf hf2
  kernel_rfl
/-- what stands behind the kinds -/
structure RPS (w : World) (gx g : Nat) (id kd : Nat) (z : Rds) (y : RpK) (S : Rds) (vh ve vp : Value) (ds : List Sg) : Prop where
  x : Blk w gx (rpC y vh ve vp) 51
  r : RdB w g S
  at_ : RpIn w y vh ve vp ds
  eq : rpP id kd z = (y, S)
  far : RpFar gx vh ve vp ds
theorem beS_le (l : List UInt8) (c : UInt8) : (beS l c).1.length ≤ l.length := by
  unfold beS
  split
  · cases hb : behind l c with
    | none => simp
    | some r => have := behind_some hb; subst this; simp
  · simp
theorem SlAt.one {w : World} {v : Value} {size : Nat} {css : List (List Value)} (h : SlAt w size v css) : v.oneCell' = true := by
  obtain ⟨a, cap, rfl, _⟩ := h.form
  rfl
theorem RpIn.ones {w : World} {x : RpK} {vh ve vp : Value} {ds : List Sg} (h : RpIn w x vh ve vp ds) : vh.oneCell' = true ∧ ve.oneCell' = true ∧ vp.oneCell' = true := ⟨SlAt.one h.heads.at_, SlAt.one h.entries, SlAt.one h.proof⟩
set_option maxHeartbeats 16000000 in
theorem rpget_any (l : List UInt8) (w : World) (hl : l.length ≤ 1000000000) :
    Calls Try.prog 38 #[sv l] w fun e w' => RPA l e w w' := by
  have CB := hid (fun (w0 : World) (hg : w0.heap.size = w.heap.size + 1) => beginG_any l 82 (w.heap.size + 1) w0 hg hl)
  have HG := hid (show getRp l = if (rpP (nuN (beS l 82) 1073741824) (nuN (nuS (beS l 82) 1073741824) 5) (nuS (nuS (beS l 82) 1073741824) 5)).2.2 && (rpP (nuN (beS l 82) 1073741824) (nuN (nuS (beS l 82) 1073741824) 5) (nuS (nuS (beS l 82) 1073741824) 5)).2.1 == [] && decide (1 ≤ nuN (nuS (beS l 82) 1073741824) 5) then some (rpP (nuN (beS l 82) 1073741824) (nuN (nuS (beS l 82) 1073741824) 5) (nuS (nuS (beS l 82) 1073741824) 5)).1 else none from rfl)
  have hx0 : (beS l 82).1.length ≤ 1000000000 := Nat.le_trans (beS_le l 82) hl
  have HNO := hid (fun e w' => @RPA.mk_no l e w w')
  have HMK := hid (fun e w' => @RPA.mk l e w w')
  generalize hGV : getRp l = GV at HG
  have HGV := hid hGV; clear hGV
  generalize beS l 82 = x0 at *
  have hid1 := nuN_le x0 1073741824
  have hx1 : (nuS x0 1073741824).1.length ≤ 1000000000 := Nat.le_trans (rdR_le _) hx0
  have C1 := hid (fun (w0 : World) (h : RdB w0 (w.heap.size + 1) x0) => numberI_any (w.heap.size + 1) x0 1073741824 1073741824 (by rfl) w0 h hx0 (by decide))
  generalize nuN x0 1073741824 = id at *
  generalize nuS x0 1073741824 = x1 at *
  have hkd := nuN_le x1 5
  have hx2 : (nuS x1 5).1.length ≤ 1000000000 := Nat.le_trans (rdR_le _) hx1
  have C2 := hid (fun (w0 : World) (h : RdB w0 (w.heap.size + 1) x1) => numberI_any (w.heap.size + 1) x1 5 5 (by rfl) w0 h hx1 (by decide))
  generalize nuN x1 5 = kd at *
  generalize nuS x1 5 = z at *
  have hbw0 := hid ((Below.refl _ w).alloc (Nat.le_refl _) (.cells rpZ 51))
  have HZ0 := hid (Blk.new w rpZ 51)
  go_enter Try.func38, Try.ntmps38
  go_upto_region 3 with (first
    | (go_at_call 79; refine (CB.out _ (by simp)).mono ?_; rintro e w1 ⟨rfl, hR1, hb1⟩; have HR1 := hid hR1; have Hb1 := hid hb1; clear hR1 hb1)
    | (go_at_call 80; with_reducible refine (C1.out _ HR1.out).mono ?_; rintro e w2 ⟨rfl, hA2⟩; have HA2 := hid hA2; clear hA2)
    | (go_at_call 80; with_reducible refine (C2.out _ HA2.out.at_).mono ?_; rintro e w3 ⟨rfl, hA3⟩; have HA3 := hid hA3; clear hA3))
  have h1s := Hb1.out.size
  have h2s := HA2.out.but.size
  have h3s := HA3.out.but.size
  have hg1 := Blk.lt HR1.out
  refine wp_world (fun W => Blk W w.heap.size rpZ 51 ∧ RdB W (w.heap.size + 1) z ∧ Blk W w3.heap.size (rpC ⟨id, kd, 0, [], [], []⟩ nilV nilV nilV) 51 ∧ Below w.heap.size w W ∧ w3.heap.size < W.heap.size) ⟨?_, ?_, ?_, ?_, ?_⟩ ?_
  · exact (Blk.but (Blk.but (HZ0.out.later Hb1.out) HA2.out.but (by omega)) HA3.out.but (by omega)).alloc _
  · exact HA3.out.at_.alloc _
  · exact Blk.new _ _ _
  · have h0 : w.heap.size ≤ w1.heap.size := by omega
    exact (((hbw0.out.trans (Hb1.out.mono (by simp))).grown HA2.out.but h0 (fun k hk => by injection hk with hk; omega)).grown HA3.out.but (by omega) (fun k hk => by injection hk with hk; omega)).alloc (by omega) _
  · simp
  rintro w4 ⟨hZ4, hR4, hX4, hW4, hs4⟩
  have HZ4 := hid hZ4; have HR4 := hid hR4; have HX4 := hid hX4; have HW4 := hid hW4
  have hgx : w.heap.size + 1 < w3.heap.size := by omega
  clear hZ4 hR4 hX4 hW4 h1s h2s h3s hg1 hx0 hx1 C1 C2 CB
  generalize hgxd : w3.heap.size = gx at *
  clear hgxd
  have c1 : w4.cell? ⟨gx, 1, none⟩ = some (.int .i64 (kd : Int)) := Blk.cell HX4.out 1
  go_upto_block 0 with fail
  clear c1
  go_cut [] (fun wx => (∃ y S vh ve vp ds, RPS wx gx (w.heap.size + 1) id kd z y S vh ve vp ds) ∧ Blk wx w.heap.size rpZ 51 ∧ Below w.heap.size w wx)
  case first =>
    rcases (show kd = 1 ∨ kd = 2 ∨ kd = 3 ∨ kd = 4 ∨ kd = 5 ∨ kd = 0 by omega) with hK | hK | hK | hK | hK | hK
    · have HQ := hid (show rpP id kd z = (⟨id, kd, (nuN z 255 : Nat), [], [], []⟩, ((nuS z 255).1, (nuS z 255).2 && decide (0 < nuN z 255))) by subst hK; rfl)
      have e1 : ((kd : Int) == 1) = true := by simp; omega
      clear hK
      have C3 := hid (fun (w0 : World) (h : RdB w0 (w.heap.size + 1) z) => numberI_any (w.heap.size + 1) z 255 255 (by rfl) w0 h hx2 (by decide))
      have hc := nuN_le z 255
      generalize nuN z 255 = C at *
      rcases hy : nuS z 255 with ⟨S1, ok1⟩
      rw [hy] at C3 HQ
      clear hy
      have Hne := hid (show gx ≠ w.heap.size + 1 by omega)
      go_upto_region 6 with (go_at_call 80; refine (C3.out _ HR4.out).mono ?_; rintro e w5 ⟨rfl, hA5⟩; have HA5 := hid hA5; clear hA5; have HX5 := hid (Blk.but HX4.out HA5.out.but Hne.out); have hc5 : w5.cell? ⟨gx, 2, none⟩ = some (.int .i64 0) := Blk.cell HX5.out 2; have hf5 : w5.frozen? ⟨gx, 2, none⟩ = false := Blk.free HX5.out 2)
      have hsz5 := HA5.out.but.size
      have hW5 := HW4.out.grown HA5.out.but (by omega) (fun k hk => by injection hk with hk; omega)
      refine wp_world (fun W => Blk W gx (rpC ⟨id, kd, (C : Nat), [], [], []⟩ nilV nilV nilV) 51 ∧ RdB W (w.heap.size + 1) (S1, ok1) ∧ Blk W w.heap.size rpZ 51 ∧ Below w.heap.size w W) ⟨Blk.setCell HX5.out 2 _, Blk.setCell_ne HA5.out.at_ (by simp; omega) _, Blk.setCell_ne (Blk.but HZ4.out HA5.out.but (by omega)) (by simp; omega) _, hW5.setCell (by show w.heap.size ≤ gx; omega) _⟩ ?_
      rintro w6 ⟨hX6, hR6, hZ6, hW6⟩
      have HX6 := hid hX6; have HR6 := hid hR6; have HZ6 := hid hZ6; have HW6 := hid hW6
      obtain ⟨c0, c1, f0, f1⟩ := RdB.cells hR6
      have cx : w6.cell? ⟨gx, 2, none⟩ = some (.int .i64 (C : Nat)) := Blk.cell hX6 2
      clear hX6 hR6 hZ6 hW6 hc5 hf5 hW5
      have Hfin := hid (show ∀ b : Bool, b = (ok1 && decide (0 < C)) → (∃ y S vh ve vp ds, RPS (w6.setCell ⟨w.heap.size + 1, 1, none⟩ (.bool b)) gx (w.heap.size + 1) id kd z y S vh ve vp ds) ∧ Blk (w6.setCell ⟨w.heap.size + 1, 1, none⟩ (.bool b)) w.heap.size rpZ 51 ∧ Below w.heap.size w (w6.setCell ⟨w.heap.size + 1, 1, none⟩ (.bool b)) from fun b hb =>
        ⟨⟨⟨id, kd, (C : Nat), [], [], []⟩, (S1, b), nilV, nilV, nilV, [], Blk.setCell_ne HX6.out (by simp; omega) _, RdB.set1 HR6.out b, rpIn_nil _ _ _ _, by rw [HQ.out, hb], ⟨Far.nil _, Far.nil _, Far.nil _, fun d hd => by simp at hd⟩⟩,
          Blk.setCell_ne HZ6.out (by simp) _, HW6.out.setCell (by show w.heap.size ≤ w.heap.size + 1; omega) _⟩)
      cases ok1 with
      | false =>
        go_wp2
        go_meet
        exact Hfin.out false rfl
      | true =>
        by_cases h0 : 0 < C
        · have d1 : decide (0 < C) = true := decide_eq_true h0
          have H0 := hid d1
          have d2 : decide ((0 : Int) < (C : Int)) = true := decide_eq_true (by omega)
          clear h0
          go_wp2
          go_meet
          exact Hfin.out true (by rw [H0.out]; rfl)
        · have d1 : decide (0 < C) = false := decide_eq_false h0
          have H0 := hid d1
          have d2 : decide ((0 : Int) < (C : Int)) = false := decide_eq_false (by omega)
          clear h0
          go_wp2
          go_meet
          exact Hfin.out false (by rw [H0.out]; rfl)
    · have HQ := hid (show rpP id kd z = (⟨id, kd, 0, [sgK1 z], [], []⟩, sgS z) by subst hK; rfl)
      have e1 : ((kd : Int) == 1) = false := by simp; omega
      have e2 : ((kd : Int) == 2) = true := by simp; omega
      clear hK
      have C3 := hid (fun (w0 : World) (h : RdB w0 (w.heap.size + 1) z) => rhead17_any (w.heap.size + 1) z w0 h hx2)
      have Hne := hid (show gx ≠ w.heap.size + 1 by omega)
      go_wp2_with (first
        | (go_at_call 83; refine (C3.out _ HR4.out).mono ?_; rintro e w5 ⟨⟨d, hdk, rfl, hdin, hfr⟩, hA5⟩; have HA5 := hid hA5; have Hdk := hid hdk; have Hdin := hid hdin; have Hfr := hid hfr; have hr := hdin.r32; clear hA5 hdk hdin hfr; have HX5 := hid ((Blk.but HX4.out HA5.out.but Hne.out).alloc (.cells (sgA d.z d.root d.i d.sig d.p) 41)); have hc5 : (w5.alloc (.cells (sgA d.z d.root d.i d.sig d.p) 41)).cell? ⟨gx, 3, none⟩ = some nilV := Blk.cell HX5.out 3; have hf5 : (w5.alloc (.cells (sgA d.z d.root d.i d.sig d.p) 41)).frozen? ⟨gx, 3, none⟩ = false := Blk.free HX5.out 3)
        | (refine wpList_buildSlice_one rfl 24 41 _ rfl 36 (.agg (sgA 0 zero32 0 [] (.slice none 0 0))) (.agg (sgA d.z d.root d.i d.sig d.p)) (sgA d.z d.root d.i d.sig d.p) rfl Try.underlying24 Try.infoSigned2 rfl (sgA_size hr) (by decide) (by decide) ?_))
      go_meet
      have hsz5 := HA5.out.but.size
      have hW5 := HW4.out.grown HA5.out.but (by omega) (fun k hk => by injection hk with hk; omega)
      have hNew := Blk.new w5 (sgA d.z d.root d.i d.sig d.p) 41
      have hIn := Hdin.out.below ((Below.refl _ w5).alloc (Nat.le_refl _) (.cells (sgA d.z d.root d.i d.sig d.p) 41))
      have hfr2 : ∀ ad, d.a = some ad → gx < ad.block := fun ad had => by have := Hfr.out ad had; omega
      have hds : RpIn (w5.alloc (.cells (sgA d.z d.root d.i d.sig d.p) 41)) ⟨id, kd, 0, [sgK1 z], [], []⟩ (.slice (some ⟨w5.heap.size, 0, none⟩) 1 1) nilV nilV [d] := ⟨sgs1 hNew hIn, by simp [Hdk.out], StrsAt.nil _, SlAt.nil _⟩
      have hfar : RpFar gx (.slice (some ⟨w5.heap.size, 0, none⟩) 1 1) nilV nilV [d] := ⟨fun ad n c e => by injection e with e1; injection e1 with e1; subst e1; show gx < w5.heap.size; omega, Far.nil _, Far.nil _, fun d' hd' => by simp at hd'; subst hd'; exact hfr2⟩
      refine ⟨⟨⟨id, kd, 0, [sgK1 z], [], []⟩, sgS z, .slice (some ⟨w5.heap.size, 0, none⟩) 1 1, nilV, nilV, [d], Blk.setCell HX5.out 3 _, Blk.setCell_ne (HA5.out.at_.alloc _) (by simp; omega) _, hds.but (But.setCellW _ gx 3 _) hfar (Nat.le_refl _), HQ.out, hfar⟩, Blk.setCell_ne ((Blk.but HZ4.out HA5.out.but (by omega)).alloc _) (by simp; omega) _, (hW5.alloc hW5.size _).setCell (by show w.heap.size ≤ gx; omega) _⟩
    · have HQ := hid (show rpP id kd z = (⟨id, kd, 0, [], enL (nuN z 16) (nuS z 16), usX (enS (nuN z 16) (nuS z 16)).1⟩, hsS (enS (nuN z 16) (nuS z 16))) by subst hK; rfl)
      have e1 : ((kd : Int) == 1) = false := by simp; omega
      have e2 : ((kd : Int) == 2) = false := by simp; omega
      have e3 : ((kd : Int) == 3) = true := by simp; omega
      clear hK
      obtain ⟨i0, hi0, hz0, hz1, hz2⟩ := info_parts Try.infoStr
      have C3 := hid (fun (w0 : World) (h : RdB w0 (w.heap.size + 1) z) => numberI_any (w.heap.size + 1) z 16 16 (by rfl) w0 h hx2 (by decide))
      have hN16 := nuN_le z 16
      have hx3 : (nuS z 16).1.length ≤ 1000000000 := Nat.le_trans (rdR_le _) hx2
      have HEL := hid (en_le (nuN z 16) (nuS z 16))
      obtain ⟨E, hE⟩ : ∃ E, enL (nuN z 16) (nuS z 16) = E := ⟨_, rfl⟩
      obtain ⟨SE, hSE⟩ : ∃ SE, enS (nuN z 16) (nuS z 16) = SE := ⟨_, rfl⟩
      rw [hE] at HEL
      rw [hE, hSE] at HQ
      have HE := hid hE; have HSE := hid hSE
      clear hE hSE
      generalize nuN z 16 = N at *
      generalize nuS z 16 = Y at *
      have Hne := hid (show gx ≠ w.heap.size + 1 by omega)
      go_wp2_with (go_at_call 80; refine (C3.out _ HR4.out).mono ?_; rintro e w5 ⟨rfl, hA5⟩; have HA5 := hid hA5; clear hA5)
      have hsz5 := HA5.out.but.size
      have hW5 := HW4.out.grown HA5.out.but (by omega) (fun k hk => by injection hk with hk; omega)
      have HX5 := hid (Blk.but HX4.out HA5.out.but Hne.out)
      have HZ5 := hid (Blk.but HZ4.out HA5.out.but (by omega))
      have hgx5 := HX5.out.lt
      go_loopw [6] (fun i wr => ∃ (m : Nat) (S : Rds) (D : List (List UInt8)) (v : Value), i = .int .i64 m ∧ m ≤ N ∧ D.length + m ≤ 16 ∧ S.1.length ≤ 1000000000 ∧ E = D ++ enL m S ∧ SE = enS m S ∧ RdB wr (w.heap.size + 1) S ∧ wr.ownsRow (gx + 1) 9 1 v D.length (D.map sv) ∧ Blk wr gx (rpC ⟨id, kd, 0, [], [], []⟩ nilV v nilV) 51 ∧ Blk wr w.heap.size rpZ 51 ∧ Below w.heap.size w wr) (fun i _ => (intOf i).toNat)
      case atStart => exact ⟨N, Y, [], nilV, rfl, Nat.le_refl _, by simp; omega, hx3, HE.out.symm, HSE.out.symm, HA5.out.at_, World.ownsRow_nil _ _ _ _, HX5.out, HZ5.out, hW5⟩
      case round =>
        obtain ⟨m, S, D, v, rfl, hm, hDm, hS, hEq, hSEq, hR, hown, hX, hZ, hW⟩ := hrel
        obtain ⟨va, vc, rfl, _⟩ := ownsRow_form hown
        have HEq := hid hEq; have HSEq := hid hSEq; have HR := hid hR; have Hown := hid hown; have HX := hid hX; have HZ := hid hZ; have HW := hid hW
        obtain ⟨q0, q1, g0, g1⟩ := RdB.cells hR
        have hgxr := hX.lt
        clear hEq hSEq hR hown hX hZ hW
        have hexit : (S.2 = false ∨ m = 0) → E = D ∧ SE = S := fun h => by
          rw [HEq.out, HSEq.out]
          rcases h with h | h
          · cases m with
            | zero => simp [enL, enS]
            | succ m => simp [enL, enS, h]
          · subst h; simp [enL, enS]
        have Hexit := hid hexit; clear hexit
        by_cases hgo : S.2 = true ∧ 0 < m
        · obtain ⟨hok, h0⟩ := hgo
          obtain ⟨m', rfl⟩ : ∃ m', m = m' + 1 := ⟨m - 1, by omega⟩
          rw [hok] at q1
          have d0 : decide ((0 : Int) < ((m' + 1 : Nat) : Int)) = true := decide_eq_true (by omega)
          have Hnx := hid (show E = (D ++ [cuT S.1]) ++ enL m' (txS S 200) ∧ SE = enS m' (txS S 200) by
            rw [HEq.out, HSEq.out]
            simp [enL, enS, hok])
          have hT := cuT_le S.1
          have CT := hid (fun (w0 : World) (h : RdB w0 (w.heap.size + 1) S) => rtext17_any (w.heap.size + 1) S 200 w0 h hS (by decide))
          have hS2 : (txS S 200).1.length ≤ 1000000000 := Nat.le_trans (cuR_le S.1) hS
          generalize txS S 200 = S' at *
          generalize cuT S.1 = T at *
          go_upto_region 13 with fail
          clear q0 q1 g0 g1 d0
          refine wp_region_anyw (by kernel_rfl) ?_
          intro w6 he6 hb6
          have HX6 := hid (HX.out.later hb6); have HZ6 := hid (HZ.out.later hb6); have HR6 := hid (show RdB w6 (w.heap.size + 1) S from Blk.later HR.out hb6); have Hown6 := hid (Hown.out.later hb6)
          have HW6 := hid (HW.out.trans (hb6.mono HW.out.size))
          have hs6 : gx < w6.heap.size := Nat.lt_of_lt_of_le hgxr hb6.size
          have hc6 : w6.cell? ⟨gx, 4, none⟩ = some (.slice va D.length vc) := Blk.cell HX6.out 4
          clear he6 hb6
          show wpAny _ _ _ _ 8 (Array.replicate 8 false) _ _
          refine wpAny_take (i := 0) (v := .pointer (some ⟨gx, 4, none⟩)) rfl (by kernel_rfl) (by kernel_rfl) (by kernel_rfl) (fun _ _ _ h => h) (Or.inl ⟨by rfl, ?_⟩) ?_
          · intro w
            go_simp
            try exact IntWalk.i64_in _ (by omega)
            try omega
          (try dsimp only [List.getElem_toArray, List.getElem_cons_succ, List.getElem_cons_zero]); (try go_frame)
          refine wpAny_take (i := 2) (v := .pointer (some ⟨w.heap.size + 1, 0, none⟩)) rfl (by kernel_rfl) (by kernel_rfl) (by kernel_rfl) (fun _ _ _ h => h) (Or.inl ⟨by rfl, ?_⟩) ?_
          · intro w
            go_simp
            try exact IntWalk.i64_in _ (by omega)
            try omega
          (try dsimp only [List.getElem_toArray, List.getElem_cons_succ, List.getElem_cons_zero]); (try go_frame)
          refine wpAny_all (rs := [1, 3]) (by kernel_rfl) (by simp) ?_
          intro q hq
          rcases (show q = 1 ∨ q = 3 by simpa using hq) with rfl | rfl
          ·
            refine wpOp_list rfl ?_
            (try dsimp only [List.getElem_toArray, List.getElem_cons_succ, List.getElem_cons_zero]); (try go_frame)
            refine wpList_load_oneG rfl 49 _ rfl ⟨gx, 4, none⟩ rfl (.slice va D.length vc) _ hc6 Try.underlying49 rfl ?_
            refine wpList_nil ?_
            show wpAny _ _ _ _ _ _ _ _
            (try dsimp only [List.getElem_toArray, List.getElem_cons_succ, List.getElem_cons_zero]); (try go_frame)
            refine wpAny_forced (i := 3) (by kernel_rfl) rfl ?_
            (try dsimp only [List.getElem_toArray, List.getElem_cons_succ, List.getElem_cons_zero]); (try go_frame)
            go_wp2_with (go_at_call 84; refine (CT.out _ HR6.out).mono ?_; rintro e w7 ⟨rfl, hA7⟩; have HA7 := hid hA7; clear hA7)
            have HX7 := hid (Blk.but HX6.out HA7.out.but Hne.out)
            have hsz7 := HA7.out.but.size
            have HW7 := hid (HW6.out.grown HA7.out.but (by have := HW6.out.size; omega) (fun k hk => by injection hk with hk; omega))
            have Hown7 := hid (Hown6.out.kept HA7.out.but (by
              cases hv : (Value.slice va D.length vc).ownBlock with
              | none => exact .inl rfl
              | some k => have := (Hown6.out.lt k hv).1; exact .inr (fun e => by injection e with e; omega)))
            have hc7 : w7.cell? ⟨gx, 4, none⟩ = some (.slice va D.length vc) := Blk.cell HX7.out 4
            have hca : (w7.alloc (.cells #[sv T] 9)).cell? ⟨gx, 4, none⟩ = some (.slice va D.length vc) := Blk.cell (HX7.out.alloc (.cells #[sv T] 9)) 4
            show wpAny _ _ _ _ _ _ _ _
            (try dsimp only [List.getElem_toArray, List.getElem_cons_succ, List.getElem_cons_zero]); (try go_frame)
            refine wpAny_forced (i := 4) (by kernel_rfl) rfl ?_
            (try dsimp only [List.getElem_toArray, List.getElem_cons_succ, List.getElem_cons_zero]); (try go_frame)
            refine wpList_buildSlice_one rfl 49 9 _ rfl 1 (.string ⟨#[]⟩) (sv T) #[sv T] rfl Try.underlying49 Try.infoStr2 rfl rfl (by decide) (by decide) ?_
            refine wpList_nil ?_
            show wpAny _ _ _ _ _ _ _ _
            (try dsimp only [List.getElem_toArray, List.getElem_cons_succ, List.getElem_cons_zero]); (try go_frame)
            refine wpAny_forced (i := 5) (by kernel_rfl) rfl ?_
            (try dsimp only [List.getElem_toArray, List.getElem_cons_succ, List.getElem_cons_zero]); (try go_frame)
            refine wpList_app rfl _ _ 49 rfl (gx + 1) 9 i0 (.string ⟨#[]⟩) 1 16 Try.underlying49 hi0 hz0 hz1 hz2 rfl (by decide) (.slice va D.length vc) D.length (D.map sv) rfl (Hown7.out.alloc _) ⟨w7.heap.size, 0, none⟩ 1 1 [sv T] rfl rfl (row_alloc (cs := #[sv T])) (by intro u hu; simp at hu; subst hu; rfl) (by unfold maxLen; omega) (by omega) (by simp; omega) ?_
            intro v8 w8 hown8 hg8 hat8
            refine wpList_nil ?_
            show wpAny _ _ _ _ _ _ _ _
            have hblk8 : ∀ g' cs t, Blk w7 g' cs t → g' ≤ gx → Blk w8 g' cs t := fun g' cs t hB hle => (hg8.block g' (by have := hB.lt; simp; omega) (fun e => by have := (Hown7.out.lt g' e.symm).1; omega)).trans (hB.alloc _)
            have HX8 := hid (hblk8 _ _ _ HX7.out (Nat.le_refl _))
            have HR8 := hid (show RdB w8 (w.heap.size + 1) S' from hblk8 _ _ _ HA7.out.at_ (by omega))
            have HZ8 := hid (hblk8 _ _ _ (Blk.but HZ6.out HA7.out.but (by omega)) (by omega))
            have HW8 := hid ((HW7.out.alloc HW7.out.size (.cells #[sv T] 9)).grown hg8 (by have := HW7.out.size; simp; omega) (fun k hk => by have := (Hown7.out.lt k hk).1; omega))
            have Hown8 := hid (show w8.ownsRow (gx + 1) 9 1 v8 (D ++ [T]).length ((D ++ [T]).map sv) by rw [List.length_append, List.map_append]; exact hown8)
            obtain ⟨va8, vc8, rfl, _⟩ := ownsRow_form Hown8.out
            have el : (D ++ [T]).length = D.length + 1 := by simp
            have Hown9 := hid (show w8.ownsRow (gx + 1) 9 1 (.slice va8 (D.length + 1) vc8) (D.length + 1) ((D ++ [T]).map sv) by have := Hown8.out; rw [el] at this; exact this)
            have El := hid el
            clear el
            clear hown8 hg8 hat8 hblk8 hc6 hc7 hca
            (try dsimp only [List.getElem_toArray, List.getElem_cons_succ, List.getElem_cons_zero]); (try go_frame)
            have hc8 : w8.cell? ⟨gx, 4, none⟩ = some (.slice va D.length vc) := Blk.cell HX8.out 4
            have hf8 : w8.frozen? ⟨gx, 4, none⟩ = false := Blk.free HX8.out 4
            refine wpAny_take (i := 6) (v := .pointer (some ⟨gx, 4, none⟩)) rfl (by kernel_rfl) (by kernel_rfl) (by kernel_rfl) (fun _ _ _ h => h) (Or.inl ⟨by rfl, ?_⟩) ?_
            · intro w
              go_simp
              try exact IntWalk.i64_in _ (by omega)
              try omega
            (try dsimp only [List.getElem_toArray, List.getElem_cons_succ, List.getElem_cons_zero]); (try go_frame)
            refine wpAny_forced (i := 7) (by kernel_rfl) rfl ?_
            (try dsimp only [List.getElem_toArray, List.getElem_cons_succ, List.getElem_cons_zero]); (try go_frame)
            go_wp2_with fail
            show wpAny _ _ _ _ _ _ _ _
            (try dsimp only [List.getElem_toArray, List.getElem_cons_succ, List.getElem_cons_zero]); (try go_frame)
            refine wpAny_done (by kernel_rfl) ?_ _
            go_wp2
            go_roundw
            case rel =>
              exact ⟨m', S', D ++ [T], .slice va8 (D.length + 1) vc8, by go_num, by omega, by rw [List.length_append]; simp; omega, hS2, Hnx.out.1, Hnx.out.2, Blk.setCell_ne HR8.out (by simp; omega) _, by rw [El.out]; exact Hown9.out.kept (But.setCellW w8 gx 4 _) (by
                cases hv : (Value.slice va8 (D.length + 1) vc8).ownBlock with
                | none => exact .inl rfl
                | some k => have := (Hown9.out.lt k hv).1; exact .inr (fun e => by injection e with e; omega)), Blk.setCell HX8.out 4 _, Blk.setCell_ne HZ8.out (by simp; omega) _, HW8.out.setCell (by show w.heap.size ≤ gx; omega) _⟩
            case measure => simp [intOf]
          ·
            refine wpOp_list rfl ?_
            (try dsimp only [List.getElem_toArray, List.getElem_cons_succ, List.getElem_cons_zero]); (try go_frame)
            go_wp2_with (go_at_call 84; refine (CT.out _ HR6.out).mono ?_; rintro e w7 ⟨rfl, hA7⟩; have HA7 := hid hA7; clear hA7)
            have HX7 := hid (Blk.but HX6.out HA7.out.but Hne.out)
            have hsz7 := HA7.out.but.size
            have HW7 := hid (HW6.out.grown HA7.out.but (by have := HW6.out.size; omega) (fun k hk => by injection hk with hk; omega))
            have Hown7 := hid (Hown6.out.kept HA7.out.but (by
              cases hv : (Value.slice va D.length vc).ownBlock with
              | none => exact .inl rfl
              | some k => have := (Hown6.out.lt k hv).1; exact .inr (fun e => by injection e with e; omega)))
            have hc7 : w7.cell? ⟨gx, 4, none⟩ = some (.slice va D.length vc) := Blk.cell HX7.out 4
            have hca : (w7.alloc (.cells #[sv T] 9)).cell? ⟨gx, 4, none⟩ = some (.slice va D.length vc) := Blk.cell (HX7.out.alloc (.cells #[sv T] 9)) 4
            show wpAny _ _ _ _ _ _ _ _
            (try dsimp only [List.getElem_toArray, List.getElem_cons_succ, List.getElem_cons_zero]); (try go_frame)
            refine wpAny_all (rs := [1, 4]) (by kernel_rfl) (by simp) ?_
            intro q hq
            rcases (show q = 1 ∨ q = 4 by simpa using hq) with rfl | rfl
            ·
              refine wpOp_list rfl ?_
              (try dsimp only [List.getElem_toArray, List.getElem_cons_succ, List.getElem_cons_zero]); (try go_frame)
              refine wpList_load_oneG rfl 49 _ rfl ⟨gx, 4, none⟩ rfl (.slice va D.length vc) _ hc7 Try.underlying49 rfl ?_
              refine wpList_nil ?_
              show wpAny _ _ _ _ _ _ _ _
              (try dsimp only [List.getElem_toArray, List.getElem_cons_succ, List.getElem_cons_zero]); (try go_frame)
              refine wpAny_forced (i := 4) (by kernel_rfl) rfl ?_
              (try dsimp only [List.getElem_toArray, List.getElem_cons_succ, List.getElem_cons_zero]); (try go_frame)
              refine wpList_buildSlice_one rfl 49 9 _ rfl 1 (.string ⟨#[]⟩) (sv T) #[sv T] rfl Try.underlying49 Try.infoStr2 rfl rfl (by decide) (by decide) ?_
              refine wpList_nil ?_
              show wpAny _ _ _ _ _ _ _ _
              (try dsimp only [List.getElem_toArray, List.getElem_cons_succ, List.getElem_cons_zero]); (try go_frame)
              refine wpAny_forced (i := 5) (by kernel_rfl) rfl ?_
              (try dsimp only [List.getElem_toArray, List.getElem_cons_succ, List.getElem_cons_zero]); (try go_frame)
              refine wpList_app rfl _ _ 49 rfl (gx + 1) 9 i0 (.string ⟨#[]⟩) 1 16 Try.underlying49 hi0 hz0 hz1 hz2 rfl (by decide) (.slice va D.length vc) D.length (D.map sv) rfl (Hown7.out.alloc _) ⟨w7.heap.size, 0, none⟩ 1 1 [sv T] rfl rfl (row_alloc (cs := #[sv T])) (by intro u hu; simp at hu; subst hu; rfl) (by unfold maxLen; omega) (by omega) (by simp; omega) ?_
              intro v8 w8 hown8 hg8 hat8
              refine wpList_nil ?_
              show wpAny _ _ _ _ _ _ _ _
              have hblk8 : ∀ g' cs t, Blk w7 g' cs t → g' ≤ gx → Blk w8 g' cs t := fun g' cs t hB hle => (hg8.block g' (by have := hB.lt; simp; omega) (fun e => by have := (Hown7.out.lt g' e.symm).1; omega)).trans (hB.alloc _)
              have HX8 := hid (hblk8 _ _ _ HX7.out (Nat.le_refl _))
              have HR8 := hid (show RdB w8 (w.heap.size + 1) S' from hblk8 _ _ _ HA7.out.at_ (by omega))
              have HZ8 := hid (hblk8 _ _ _ (Blk.but HZ6.out HA7.out.but (by omega)) (by omega))
              have HW8 := hid ((HW7.out.alloc HW7.out.size (.cells #[sv T] 9)).grown hg8 (by have := HW7.out.size; simp; omega) (fun k hk => by have := (Hown7.out.lt k hk).1; omega))
              have Hown8 := hid (show w8.ownsRow (gx + 1) 9 1 v8 (D ++ [T]).length ((D ++ [T]).map sv) by rw [List.length_append, List.map_append]; exact hown8)
              obtain ⟨va8, vc8, rfl, _⟩ := ownsRow_form Hown8.out
              have el : (D ++ [T]).length = D.length + 1 := by simp
              have Hown9 := hid (show w8.ownsRow (gx + 1) 9 1 (.slice va8 (D.length + 1) vc8) (D.length + 1) ((D ++ [T]).map sv) by have := Hown8.out; rw [el] at this; exact this)
              have El := hid el
              clear el
              clear hown8 hg8 hat8 hblk8 hc6 hc7 hca
              (try dsimp only [List.getElem_toArray, List.getElem_cons_succ, List.getElem_cons_zero]); (try go_frame)
              have hc8 : w8.cell? ⟨gx, 4, none⟩ = some (.slice va D.length vc) := Blk.cell HX8.out 4
              have hf8 : w8.frozen? ⟨gx, 4, none⟩ = false := Blk.free HX8.out 4
              refine wpAny_take (i := 6) (v := .pointer (some ⟨gx, 4, none⟩)) rfl (by kernel_rfl) (by kernel_rfl) (by kernel_rfl) (fun _ _ _ h => h) (Or.inl ⟨by rfl, ?_⟩) ?_
              · intro w
                go_simp
                try exact IntWalk.i64_in _ (by omega)
                try omega
              (try dsimp only [List.getElem_toArray, List.getElem_cons_succ, List.getElem_cons_zero]); (try go_frame)
              refine wpAny_forced (i := 7) (by kernel_rfl) rfl ?_
              (try dsimp only [List.getElem_toArray, List.getElem_cons_succ, List.getElem_cons_zero]); (try go_frame)
              go_wp2_with fail
              show wpAny _ _ _ _ _ _ _ _
              (try dsimp only [List.getElem_toArray, List.getElem_cons_succ, List.getElem_cons_zero]); (try go_frame)
              refine wpAny_done (by kernel_rfl) ?_ _
              go_wp2
              go_roundw
              case rel =>
                exact ⟨m', S', D ++ [T], .slice va8 (D.length + 1) vc8, by go_num, by omega, by rw [List.length_append]; simp; omega, hS2, Hnx.out.1, Hnx.out.2, Blk.setCell_ne HR8.out (by simp; omega) _, by rw [El.out]; exact Hown9.out.kept (But.setCellW w8 gx 4 _) (by
                  cases hv : (Value.slice va8 (D.length + 1) vc8).ownBlock with
                  | none => exact .inl rfl
                  | some k => have := (Hown9.out.lt k hv).1; exact .inr (fun e => by injection e with e; omega)), Blk.setCell HX8.out 4 _, Blk.setCell_ne HZ8.out (by simp; omega) _, HW8.out.setCell (by show w.heap.size ≤ gx; omega) _⟩
              case measure => simp [intOf]
            ·
              refine wpOp_list rfl ?_
              (try dsimp only [List.getElem_toArray, List.getElem_cons_succ, List.getElem_cons_zero]); (try go_frame)
              refine wpList_buildSlice_one rfl 49 9 _ rfl 1 (.string ⟨#[]⟩) (sv T) #[sv T] rfl Try.underlying49 Try.infoStr2 rfl rfl (by decide) (by decide) ?_
              refine wpList_nil ?_
              show wpAny _ _ _ _ _ _ _ _
              (try dsimp only [List.getElem_toArray, List.getElem_cons_succ, List.getElem_cons_zero]); (try go_frame)
              refine wpAny_forced (i := 1) (by kernel_rfl) rfl ?_
              (try dsimp only [List.getElem_toArray, List.getElem_cons_succ, List.getElem_cons_zero]); (try go_frame)
              refine wpList_load_oneG rfl 49 _ rfl ⟨gx, 4, none⟩ rfl (.slice va D.length vc) _ hca Try.underlying49 rfl ?_
              refine wpList_nil ?_
              show wpAny _ _ _ _ _ _ _ _
              (try dsimp only [List.getElem_toArray, List.getElem_cons_succ, List.getElem_cons_zero]); (try go_frame)
              refine wpAny_forced (i := 5) (by kernel_rfl) rfl ?_
              (try dsimp only [List.getElem_toArray, List.getElem_cons_succ, List.getElem_cons_zero]); (try go_frame)
              refine wpList_app rfl _ _ 49 rfl (gx + 1) 9 i0 (.string ⟨#[]⟩) 1 16 Try.underlying49 hi0 hz0 hz1 hz2 rfl (by decide) (.slice va D.length vc) D.length (D.map sv) rfl (Hown7.out.alloc _) ⟨w7.heap.size, 0, none⟩ 1 1 [sv T] rfl rfl (row_alloc (cs := #[sv T])) (by intro u hu; simp at hu; subst hu; rfl) (by unfold maxLen; omega) (by omega) (by simp; omega) ?_
              intro v8 w8 hown8 hg8 hat8
              refine wpList_nil ?_
              show wpAny _ _ _ _ _ _ _ _
              have hblk8 : ∀ g' cs t, Blk w7 g' cs t → g' ≤ gx → Blk w8 g' cs t := fun g' cs t hB hle => (hg8.block g' (by have := hB.lt; simp; omega) (fun e => by have := (Hown7.out.lt g' e.symm).1; omega)).trans (hB.alloc _)
              have HX8 := hid (hblk8 _ _ _ HX7.out (Nat.le_refl _))
              have HR8 := hid (show RdB w8 (w.heap.size + 1) S' from hblk8 _ _ _ HA7.out.at_ (by omega))
              have HZ8 := hid (hblk8 _ _ _ (Blk.but HZ6.out HA7.out.but (by omega)) (by omega))
              have HW8 := hid ((HW7.out.alloc HW7.out.size (.cells #[sv T] 9)).grown hg8 (by have := HW7.out.size; simp; omega) (fun k hk => by have := (Hown7.out.lt k hk).1; omega))
              have Hown8 := hid (show w8.ownsRow (gx + 1) 9 1 v8 (D ++ [T]).length ((D ++ [T]).map sv) by rw [List.length_append, List.map_append]; exact hown8)
              obtain ⟨va8, vc8, rfl, _⟩ := ownsRow_form Hown8.out
              have el : (D ++ [T]).length = D.length + 1 := by simp
              have Hown9 := hid (show w8.ownsRow (gx + 1) 9 1 (.slice va8 (D.length + 1) vc8) (D.length + 1) ((D ++ [T]).map sv) by have := Hown8.out; rw [el] at this; exact this)
              have El := hid el
              clear el
              clear hown8 hg8 hat8 hblk8 hc6 hc7 hca
              (try dsimp only [List.getElem_toArray, List.getElem_cons_succ, List.getElem_cons_zero]); (try go_frame)
              have hc8 : w8.cell? ⟨gx, 4, none⟩ = some (.slice va D.length vc) := Blk.cell HX8.out 4
              have hf8 : w8.frozen? ⟨gx, 4, none⟩ = false := Blk.free HX8.out 4
              refine wpAny_take (i := 6) (v := .pointer (some ⟨gx, 4, none⟩)) rfl (by kernel_rfl) (by kernel_rfl) (by kernel_rfl) (fun _ _ _ h => h) (Or.inl ⟨by rfl, ?_⟩) ?_
              · intro w
                go_simp
                try exact IntWalk.i64_in _ (by omega)
                try omega
              (try dsimp only [List.getElem_toArray, List.getElem_cons_succ, List.getElem_cons_zero]); (try go_frame)
              refine wpAny_forced (i := 7) (by kernel_rfl) rfl ?_
              (try dsimp only [List.getElem_toArray, List.getElem_cons_succ, List.getElem_cons_zero]); (try go_frame)
              go_wp2_with fail
              show wpAny _ _ _ _ _ _ _ _
              (try dsimp only [List.getElem_toArray, List.getElem_cons_succ, List.getElem_cons_zero]); (try go_frame)
              refine wpAny_done (by kernel_rfl) ?_ _
              go_wp2
              go_roundw
              case rel =>
                exact ⟨m', S', D ++ [T], .slice va8 (D.length + 1) vc8, by go_num, by omega, by rw [List.length_append]; simp; omega, hS2, Hnx.out.1, Hnx.out.2, Blk.setCell_ne HR8.out (by simp; omega) _, by rw [El.out]; exact Hown9.out.kept (But.setCellW w8 gx 4 _) (by
                  cases hv : (Value.slice va8 (D.length + 1) vc8).ownBlock with
                  | none => exact .inl rfl
                  | some k => have := (Hown9.out.lt k hv).1; exact .inr (fun e => by injection e with e; omega)), Blk.setCell HX8.out 4 _, Blk.setCell_ne HZ8.out (by simp; omega) _, HW8.out.setCell (by show w.heap.size ≤ gx; omega) _⟩
              case measure => simp [intOf]
        · have hx := Hexit.out (by
            cases hS2 : S.2 with
            | false => exact .inl rfl
            | true => exact .inr (by rw [hS2] at hgo; simp at hgo; exact hgo))
          obtain ⟨hxE, hxS⟩ := hx
          have HxE := hid hxE; have HxS := hid hxS
          clear hxE hxS Hexit
          have C9 := hid (fun (w0 : World) (h : RdB w0 (w.heap.size + 1) S) => rhashes17_any (w.heap.size + 1) S w0 h hS)
          have H32 := hid (us_32 S.1)
          have HPX := hid (show rpP id kd z = (⟨id, kd, 0, [], D, usX S.1⟩, hsS S) by rw [HQ.out, HxE.out, HxS.out])
          generalize usX S.1 = PX at *
          generalize hsS S = S9 at *
          have hstop : (S.2 && decide ((0 : Int) < (m : Int))) = false := by
            cases hS2 : S.2 with
            | false => rfl
            | true => rw [hS2] at hgo; simp at hgo ⊢; omega
          have Hfin := hid (show ∀ (w9 : World) (v9 : Value), RdA wr w9 (w.heap.size + 1) S9 → w9.ownsRow wr.heap.size 34 32 v9 PX.length (hflat PX) → (∃ y S vh ve vp ds, RPS (w9.setCell ⟨gx, 5, none⟩ v9) gx (w.heap.size + 1) id kd z y S vh ve vp ds) ∧ Blk (w9.setCell ⟨gx, 5, none⟩ v9) w.heap.size rpZ 51 ∧ Below w.heap.size w (w9.setCell ⟨gx, 5, none⟩ v9) from fun w9 v9 hA hO => by
            have hX9 := Blk.but HX.out hA.but Hne.out
            have hO9 : w9.ownsRow (gx + 1) 9 1 (.slice va D.length vc) D.length (D.map sv) := Hown.out.kept hA.but (by
              cases hv : (Value.slice va D.length vc).ownBlock with
              | none => exact .inl rfl
              | some k => have := (Hown.out.lt k hv).1; exact .inr (fun e => by injection e with e; omega))
            have hds : RpIn w9 ⟨id, kd, 0, [], D, PX⟩ nilV (.slice va D.length vc) v9 [] := ⟨SgsAt.nil _, rfl, StrsAt.of_owns hO9, SlAt.of_owns (size := 0) hO H32.out⟩
            have hfar : RpFar gx nilV (.slice va D.length vc) v9 [] := ⟨Far.nil _, fun ad n c e => by have := (hO9.lt ad.block (by rw [e]; rfl)).1; omega, fun ad n c e => by have := (hO.lt ad.block (by rw [e]; rfl)).1; omega, fun d hd => by simp at hd⟩
            have hs := hA.but.size
            exact ⟨⟨⟨id, kd, 0, [], D, PX⟩, S9, nilV, _, v9, [], Blk.setCell hX9 5 _, Blk.setCell_ne hA.at_ (by simp; omega) _, hds.but (But.setCellW _ gx 5 _) hfar (Nat.le_refl _), HPX.out, hfar⟩, Blk.setCell_ne (Blk.but HZ.out hA.but (by omega)) (by simp; omega) _, (HW.out.grown hA.but (by have := HW.out.size; omega) (fun k hk => by injection hk with hk; omega)).setCell (by show w.heap.size ≤ gx; omega) _⟩)
          cases hS2 : S.2 with
          | false =>
            rw [hS2] at q1
            clear hstop hgo
            go_wp2_with (go_at_call 85; refine (C9.out _ HR.out).mono ?_; rintro e w9 ⟨v9, rfl, hown9, hA9⟩; obtain ⟨a9, p9, rfl, _⟩ := ownsRow_form hown9; have HA9 := hid hA9; have Hown9 := hid hown9; clear hA9 hown9; have HX9 := hid (Blk.but HX.out HA9.out.but Hne.out); have hc9 : w9.cell? ⟨gx, 5, none⟩ = some nilV := Blk.cell HX9.out 5; have hf9 : w9.frozen? ⟨gx, 5, none⟩ = false := Blk.free HX9.out 5)
            go_meet
            exact Hfin.out _ _ HA9.out Hown9.out
          | true =>
            rw [hS2] at q1 hgo
            obtain rfl : m = 0 := by simp at hgo; exact hgo
            clear hstop hgo
            go_wp2_with (go_at_call 85; refine (C9.out _ HR.out).mono ?_; rintro e w9 ⟨v9, rfl, hown9, hA9⟩; obtain ⟨a9, p9, rfl, _⟩ := ownsRow_form hown9; have HA9 := hid hA9; have Hown9 := hid hown9; clear hA9 hown9; have HX9 := hid (Blk.but HX.out HA9.out.but Hne.out); have hc9 : w9.cell? ⟨gx, 5, none⟩ = some nilV := Blk.cell HX9.out 5; have hf9 : w9.frozen? ⟨gx, 5, none⟩ = false := Blk.free HX9.out 5)
            go_meet
            exact Hfin.out _ _ HA9.out Hown9.out
    · have HQ := hid (show rpP id kd z = (⟨id, kd, 0, [], [], usX z.1⟩, hsS z) by subst hK; rfl)
      have e1 : ((kd : Int) == 1) = false := by simp; omega
      have e2 : ((kd : Int) == 2) = false := by simp; omega
      have e3 : ((kd : Int) == 3) = false := by simp; omega
      have e4 : ((kd : Int) == 4) = true := by simp; omega
      clear hK
      have C3 := hid (fun (w0 : World) (h : RdB w0 (w.heap.size + 1) z) => rhashes17_any (w.heap.size + 1) z w0 h hx2)
      have Hne := hid (show gx ≠ w.heap.size + 1 by omega)
      have H32 := hid (us_32 z.1)
      generalize usX z.1 = PX at *
      go_wp2_with (go_at_call 85; refine (C3.out _ HR4.out).mono ?_; rintro e w5 ⟨v5, rfl, hown5, hA5⟩; obtain ⟨a5, p5, rfl, _⟩ := ownsRow_form hown5; have HA5 := hid hA5; have Hown5 := hid hown5; clear hA5 hown5; have HX5 := hid (Blk.but HX4.out HA5.out.but Hne.out); have hc5 : w5.cell? ⟨gx, 5, none⟩ = some nilV := Blk.cell HX5.out 5; have hf5 : w5.frozen? ⟨gx, 5, none⟩ = false := Blk.free HX5.out 5)
      go_meet
      have hsz5 := HA5.out.but.size
      have hW5 := HW4.out.grown HA5.out.but (by omega) (fun k hk => by injection hk with hk; omega)
      have hds : RpIn w5 ⟨id, kd, 0, [], [], PX⟩ nilV nilV (.slice a5 PX.length p5) [] := ⟨SgsAt.nil _, rfl, StrsAt.nil _, SlAt.of_owns (size := 0) Hown5.out H32.out⟩
      have hfar : RpFar gx nilV nilV (.slice a5 PX.length p5) [] := ⟨Far.nil _, Far.nil _, fun ad n c e => by have := (Hown5.out.lt ad.block (by rw [e]; rfl)).1; omega, fun d hd => by simp at hd⟩
      exact ⟨⟨⟨id, kd, 0, [], [], PX⟩, hsS z, nilV, nilV, .slice a5 PX.length p5, [], Blk.setCell HX5.out 5 _, Blk.setCell_ne HA5.out.at_ (by simp; omega) _, hds.but (But.setCellW _ gx 5 _) hfar (Nat.le_refl _), HQ.out, hfar⟩, Blk.setCell_ne (Blk.but HZ4.out HA5.out.but (by omega)) (by simp; omega) _, hW5.setCell (by show w.heap.size ≤ gx; omega) _⟩
    · have HQ := hid (show rpP id kd z = (⟨id, kd, 0, [sgK1 z, sgK1 (sgS z)], [], []⟩, sgS (sgS z)) by subst hK; rfl)
      have e1 : ((kd : Int) == 1) = false := by simp; omega
      have e2 : ((kd : Int) == 2) = false := by simp; omega
      have e3 : ((kd : Int) == 3) = false := by simp; omega
      have e4 : ((kd : Int) == 4) = false := by simp; omega
      have e5 : ((kd : Int) == 5) = true := by simp; omega
      clear hK
      have hx3 : (sgS z).1.length ≤ 1000000000 := Nat.le_trans (cuR_le z.1) hx2
      have C3 := hid (fun (w0 : World) (h : RdB w0 (w.heap.size + 1) z) => rhead17_any (w.heap.size + 1) z w0 h hx2)
      have C5 := hid (fun (w0 : World) (h : RdB w0 (w.heap.size + 1) (sgS z)) => rhead17_any (w.heap.size + 1) (sgS z) w0 h hx3)
      generalize sgK1 (sgS z) = K2 at *
      generalize sgS (sgS z) = Z2 at *
      generalize sgK1 z = K1 at *
      generalize sgS z = Z1 at *
      have Hne := hid (show gx ≠ w.heap.size + 1 by omega)
      go_wp2_with (first
        | (go_at_call 83; (with_reducible refine (C3.out _ HR4.out).mono ?_); rintro e w5 ⟨⟨d, hdk, rfl, hdin, hfr⟩, hA5⟩; have HA5 := hid hA5; have Hdk := hid hdk; have Hdin := hid hdin; have Hfr := hid hfr; have hr := hdin.r32; clear hA5 hdk hdin hfr)
        | (go_at_call 83; (with_reducible refine (C5.out _ HA5.out.at_).mono ?_); rintro e w6 ⟨⟨d2, hdk, rfl, hdin, hfr⟩, hA6⟩; have HA6 := hid hA6; have Hdk2 := hid hdk; have Hdin2 := hid hdin; have Hfr2 := hid hfr; have hr2 := hdin.r32; clear hA6 hdk hdin hfr; have HX5 := hid ((Blk.but (Blk.but HX4.out HA5.out.but Hne.out) HA6.out.but Hne.out).alloc (.cells (d.L ++ d2.L).toArray 41)); have hc5 : (w6.alloc (.cells (d.L ++ d2.L).toArray 41)).cell? ⟨gx, 3, none⟩ = some nilV := Blk.cell HX5.out 3; have hf5 : (w6.alloc (.cells (d.L ++ d2.L).toArray 41)).frozen? ⟨gx, 3, none⟩ = false := Blk.free HX5.out 3)
        | ((with_reducible show wpList _ _ _ ({ dst := _, op := Op.buildSlice 24 _ _, type := _, pos := _, after := _, guard := _ } :: _) _ _); refine wpList_buildSliceR rfl 24 2 [(0, .tmp 71), (1, .tmp 73)] rfl _ _ (build2g d d2 hr hr2 w6) ?_))
      go_meet
      have hsz5 := HA5.out.but.size
      have hsz6 := HA6.out.but.size
      have hW5 := HW4.out.grown HA5.out.but (by omega) (fun k hk => by injection hk with hk; omega)
      have hW6 := hW5.grown HA6.out.but (by omega) (fun k hk => by injection hk with hk; omega)
      have hNew := Blk.new w6 (d.L ++ d2.L).toArray 41
      have hfr1 : ∀ ad, d.a = some ad → gx < ad.block := fun ad had => by have := Hfr.out ad had; omega
      have hfr2 : ∀ ad, d2.a = some ad → gx < ad.block := fun ad had => by have := Hfr2.out ad had; omega
      have hIn1 := (sgIn_but Hdin.out HA6.out.but (fun ad had => by have := hfr1 ad had; omega)).below ((Below.refl _ w6).alloc (Nat.le_refl _) (.cells (d.L ++ d2.L).toArray 41))
      have hIn2 := Hdin2.out.below ((Below.refl _ w6).alloc (Nat.le_refl _) (.cells (d.L ++ d2.L).toArray 41))
      have hds : RpIn (w6.alloc (.cells (d.L ++ d2.L).toArray 41)) ⟨id, kd, 0, [K1, K2], [], []⟩ (.slice (some ⟨w6.heap.size, 0, none⟩) 2 2) nilV nilV [d, d2] := ⟨sgsTwo hNew hIn1 hIn2, by simp [Hdk.out, Hdk2.out], StrsAt.nil _, SlAt.nil _⟩
      have hfar : RpFar gx (.slice (some ⟨w6.heap.size, 0, none⟩) 2 2) nilV nilV [d, d2] := ⟨fun ad n c e => by injection e with e1; injection e1 with e1; subst e1; show gx < w6.heap.size; omega, Far.nil _, Far.nil _, fun d' hd' => by
        simp at hd'
        rcases hd' with rfl | rfl
        · exact hfr1
        · exact hfr2⟩
      refine ⟨⟨⟨id, kd, 0, [K1, K2], [], []⟩, Z2, .slice (some ⟨w6.heap.size, 0, none⟩) 2 2, nilV, nilV, [d, d2], Blk.setCell HX5.out 3 _, Blk.setCell_ne (HA6.out.at_.alloc _) (by simp; omega) _, hds.but (But.setCellW _ gx 3 _) hfar (Nat.le_refl _), HQ.out, hfar⟩, Blk.setCell_ne ((Blk.but (Blk.but HZ4.out HA5.out.but (by omega)) HA6.out.but (by omega)).alloc _) (by simp; omega) _, (hW6.alloc hW6.size _).setCell (by show w.heap.size ≤ gx; omega) _⟩
    · have HQ := hid (show rpP id kd z = (⟨id, kd, 0, [], [], []⟩, z) by subst hK; rfl)
      have e1 : ((kd : Int) == 1) = false := by simp; omega
      have e2 : ((kd : Int) == 2) = false := by simp; omega
      have e3 : ((kd : Int) == 3) = false := by simp; omega
      have e4 : ((kd : Int) == 4) = false := by simp; omega
      have e5 : ((kd : Int) == 5) = false := by simp; omega
      clear hK
      go_wp2
      go_meet
      exact ⟨⟨_, _, nilV, nilV, nilV, [], HX4.out, HR4.out, rpIn_nil _ _ _ _, HQ.out, ⟨Far.nil _, Far.nil _, Far.nil _, fun d hd => by simp at hd⟩⟩, HZ4.out, HW4.out⟩
  case rest =>
    obtain ⟨⟨y, S, vh, ve, vp, ds, hP⟩, hZ, hW⟩ := hcut
    have HP := hid hP; have HZ := hid hZ; have HW := hid hW
    rw [HP.out.eq] at HG
    have CE := hid (rend_any (w.heap.size + 1) S wc HP.out.r)
    have Hone := hid (rpC_one y vh ve vp HP.out.at_.ones.1 HP.out.at_.ones.2.1 HP.out.at_.ones.2.2)
    have hgx5 := Blk.lt HP.out.x
    have hyk : y.kind = kd := by
      have := congrArg (·.1.kind) HP.out.eq
      rw [← this]
      unfold rpP
      repeat (first | (split; (simp only; omega)) | rfl)
    have ck : wc.cell? ⟨gx, 1, none⟩ = some (.int .i64 (kd : Int)) := (Blk.cell HP.out.x 1).trans (by show some (Value.int .i64 y.kind) = _; rw [hyk])
    clear hP hZ hW hyk
    obtain ⟨EB, hEB⟩ : ∃ EB, (S.2 && S.1 == []) = EB := ⟨_, rfl⟩
    rw [hEB] at CE
    have HG2 := hid (show GV = if EB && decide (1 ≤ kd) then some y else none by rw [HG.out, ← hEB])
    clear hEB HG
    cases EB with
    | false =>
      have E := hid (show getRp l = none by rw [HGV.out, HG2.out]; rfl)
      clear HG2 HGV
      go_wp2_with (first
        | (go_at_call 81; refine (CE.out).mono ?_; rintro e w7 ⟨rfl, hb7⟩; have HZ7 := hid (HZ.out.later hb7))
        | ((with_reducible show wpList _ _ _ ({ dst := _, op := Op.store 51 _ _, type := _, pos := _, after := _, guard := _ } :: _) _ _); refine wpList_store_blk rfl 51 _ _ rfl w.heap.size rfl rpZ rfl rpZ 51 HZ7.out rfl Try.sizeRp rpZ_one ?_))
      exact bodyPost_ret (results_cell2 rfl _ w.heap.size 51 rpZ (0, 0) _ rfl (setRow_get (cs := rpZ) HZ7.out) Try.underlying51 rfl Try.sizeRp) rfl (HNO.out _ _ E.out rfl ((HW.out.trans (hb7.mono HW.out.size)).setRow (Nat.le_refl _) _))
    | true =>
      by_cases hk1 : 1 ≤ kd
      · have E := hid (show getRp l = some y by rw [HGV.out, HG2.out, if_pos (by simp; exact hk1)])
        have d1 : decide ((kd : Int) < 1) = false := decide_eq_false (by omega)
        have d2 : decide (kd = 0) = false := decide_eq_false (by omega)
        clear HG2 HGV hk1
        go_wp2_with (first
          | (go_at_call 81; refine (CE.out).mono ?_; rintro e w7 ⟨rfl, hb7⟩; have HZ7 := hid (HZ.out.later hb7); have HX7 := hid (HP.out.x.later hb7); have ck7 := (hb7.cell (p := ⟨gx, 1, none⟩) hgx5).trans ck)
          | ((with_reducible show wpList _ _ _ ({ dst := _, op := Op.load 51 _, type := _, pos := _, after := _, guard := _ } :: _) _ _); refine wpList_load_blk rfl 51 _ rfl gx rfl 51 (rpC y vh ve vp) _ HX7.out Try.underlying51 rfl Try.sizeRp ?_)
          | ((with_reducible show wpList _ _ _ ({ dst := _, op := Op.store 51 _ _, type := _, pos := _, after := _, guard := _ } :: _) _ _); refine wpList_store_blk rfl 51 _ _ rfl w.heap.size rfl (rpC y vh ve vp) rfl rpZ 51 HZ7.out rfl Try.sizeRp Hone.out ?_))
        exact bodyPost_ret (results_cell2 rfl _ w.heap.size 51 (rpC y vh ve vp) (0, 0) _ rfl (setRow_get (cs := rpC y vh ve vp) HZ7.out) Try.underlying51 rfl Try.sizeRp) rfl
          (HMK.out _ _ (fun h => by rw [E.out] at h; cases h) (fun y' h' => by rw [E.out] at h'; injection h' with h'; subst h'; exact ⟨vh, ve, vp, ds, rfl, (HP.out.at_.below hb7).but (But.own _ w.heap.size _) HP.out.far (by omega)⟩) ((HW.out.trans (hb7.mono HW.out.size)).setRow (Nat.le_refl _) _))
      · have E := hid (show getRp l = none by rw [HGV.out, HG2.out, if_neg (by simp; omega)])
        have ck0 : wc.cell? ⟨gx, 1, none⟩ = some (.int .i64 0) := by rw [ck]; congr 2; omega
        clear HG2 HGV
        have hk0 : kd = 0 := by omega
        clear hk1
        go_wp2_with (first
          | (go_at_call 81; refine (CE.out).mono ?_; rintro e w7 ⟨rfl, hb7⟩; have HZ7 := hid (HZ.out.later hb7); have ck7 := (hb7.cell (p := ⟨gx, 1, none⟩) hgx5).trans ck0)
          | ((with_reducible show wpList _ _ _ ({ dst := _, op := Op.store 51 _ _, type := _, pos := _, after := _, guard := _ } :: _) _ _); refine wpList_store_blk rfl 51 _ _ rfl w.heap.size rfl rpZ rfl rpZ 51 HZ7.out rfl Try.sizeRp rpZ_one ?_))
        exact bodyPost_ret (results_cell2 rfl _ w.heap.size 51 rpZ (0, 0) _ rfl (setRow_get (cs := rpZ) HZ7.out) Try.underlying51 rfl Try.sizeRp) rfl (HNO.out _ _ E.out rfl ((HW.out.trans (hb7.mono HW.out.size)).setRow (Nat.le_refl _) _))
end Go.Proofs.Ytjpnlnbpaecciaa
