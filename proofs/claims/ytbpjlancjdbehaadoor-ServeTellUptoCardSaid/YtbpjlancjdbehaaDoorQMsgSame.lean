/- messages.Same -/
import Derived.Test.YtbpjlancjdbehaaDoorQMsgSigned
import Derived.Test.YtbpjlancjdbehaaDoorQSg

set_option maxRecDepth 100000
namespace Go.Proofs.YtbpjlancjdbehaaDoor
open Go.RowKit Go.Spec
theorem keys_take_eq {ds es : List Sg} (h : ∀ i : Nat, i < ds.length → ∀ (h1 : i < ds.length) (h2 : i < es.length), ds[i].k = es[i].k) (hl : ds.length = es.length) : ds.map Sg.k = es.map Sg.k := by
  apply List.ext_getElem
  · simpa using hl
  · intro i h1 h2
    simp only [List.length_map] at h1 h2
    simp only [List.getElem_map]
    exact h i h1 h1 h2
end Go.Proofs.YtbpjlancjdbehaaDoor
/- messages.Same -/
namespace Go.Proofs.YtbpjlancjdbehaaDoor
open Go.RowKit Go.Spec
instance decSgK : DecidableEq SgK := inferInstance
instance decSgKs : DecidableEq (List SgK) := @instDecidableEqList SgK decSgK
abbrev RpRest := List SgK × List (List UInt8) × List (List UInt8)
instance decRpRest : DecidableEq RpRest := inferInstance
abbrev RpKey := (Int × Int × Int) × RpRest
instance decRpKey : DecidableEq RpKey := @instDecidableEqProd (Int × Int × Int) RpRest inferInstance decRpRest
/-- what a reply says -/
def RpK.key (x : RpK) : RpKey := ((x.id, x.kind, x.code), (x.heads, x.entries, x.proof))
/-- do two replies say the same? -/
def sameRp (x y : RpK) : Bool := decide (x.key = y.key)
end Go.Proofs.YtbpjlancjdbehaaDoor
/- the document's Same of replies -/
namespace Go.Proofs.YtbpjlancjdbehaaDoor
open Go.RowKit Go.Spec
set_option maxHeartbeats 8000000 in
theorem rmsame_any (x y : RpK) (vh ve vp uh ue up : Value) (ds es : List Sg) (w : World) (hx : RpIn w x vh ve vp ds) (hy : RpIn w y uh ue up es) (sx : RpSmall x) (sy : RpSmall y) :
    Calls Tryd.prog 32 #[.agg (rpC x vh ve vp), .agg (rpC y uh ue up)] w fun e w' => e = .returned (.bool (sameRp x y)) ∧ Below w.heap.size w w' := by
  obtain ⟨R, hR⟩ : ∃ R, sameRp x y = R := ⟨_, rfl⟩
  have HR := hid hR
  rw [hR]
  clear hR
  have HX := hid hx; have HY := hid hy; have SX := hid sx; have SY := hid sy
  have hdl : ds.length ≤ 1000 := by have := sx.heads; rw [← hx.keys, List.length_map] at this; exact this
  have hel : es.length ≤ 1000 := by have := sy.heads; rw [← hy.keys, List.length_map] at this; exact this
  clear hx hy sx sy
  go_enter Tryd.func32, Tryd.ntmps32
  go_upto_region 1 with fail
  refine wp_world (fun W => Blk W w.heap.size (rpC x vh ve vp) 68 ∧ Blk W (w.heap.size + 1) (rpC y uh ue up) 68 ∧ Below w.heap.size w W) ⟨(Blk.new _ _ _).alloc _, Blk.new' _ _ _ (by simp), ((Below.refl _ w).alloc (Nat.le_refl _) _).alloc (by simp) _⟩ ?_
  rintro w2 ⟨hB1, hB2, hb2⟩
  have HX2 := hid (HX.out.below hb2); have HY2 := hid (HY.out.below hb2)
  have Hb2 := hid hb2
  have h1 := hB1.lt; have h2 := hB2.lt
  have a0 : w2.cell? ⟨w.heap.size, 0, none⟩ = some (.int .i64 x.id) := Blk.cell hB1 0
  have a1 : w2.cell? ⟨w.heap.size, 1, none⟩ = some (.int .i64 x.kind) := Blk.cell hB1 1
  have a2 : w2.cell? ⟨w.heap.size, 2, none⟩ = some (.int .i64 x.code) := Blk.cell hB1 2
  have a3 : w2.cell? ⟨w.heap.size, 3, none⟩ = some vh := Blk.cell hB1 3
  have a4 : w2.cell? ⟨w.heap.size, 4, none⟩ = some ve := Blk.cell hB1 4
  have a5 : w2.cell? ⟨w.heap.size, 5, none⟩ = some vp := Blk.cell hB1 5
  have b0 : w2.cell? ⟨w.heap.size + 1, 0, none⟩ = some (.int .i64 y.id) := Blk.cell hB2 0
  have b1 : w2.cell? ⟨w.heap.size + 1, 1, none⟩ = some (.int .i64 y.kind) := Blk.cell hB2 1
  have b2 : w2.cell? ⟨w.heap.size + 1, 2, none⟩ = some (.int .i64 y.code) := Blk.cell hB2 2
  have b3 : w2.cell? ⟨w.heap.size + 1, 3, none⟩ = some uh := Blk.cell hB2 3
  have b4 : w2.cell? ⟨w.heap.size + 1, 4, none⟩ = some ue := Blk.cell hB2 4
  have b5 : w2.cell? ⟨w.heap.size + 1, 5, none⟩ = some up := Blk.cell hB2 5
  have hB1' := hB1; have hB2' := hB2
  clear hb2 hB1 hB2
  have hB1k := hid hB1'; have hB2k := hid hB2'
  obtain ⟨ha, hac, rfl, _⟩ := HX2.out.heads.form
  obtain ⟨hb, hbc, rfl, _⟩ := HY2.out.heads.form
  obtain ⟨ea, eac, rfl, _⟩ := HX2.out.entries.form
  obtain ⟨eb, ebc, rfl, _⟩ := HY2.out.entries.form
  obtain ⟨pa, pac, rfl, _⟩ := HX2.out.proof.formH
  obtain ⟨pb, pbc, rfl, _⟩ := HY2.out.proof.formH
  obtain ⟨idx, kx, cx, hsx, ex, px⟩ := x
  obtain ⟨idy, ky, cy, hsy, ey, py⟩ := y
  clear hB1' hB2'
  simp only at a0 a1 a2 a3 a4 a5 b0 b1 b2 b3 b4 b5
  simp only [RpK.heads, RpK.entries, RpK.proof] at HX2 HY2 hB1k hB2k HX HY SX SY
  have Hno := hid (show ¬ (idx = idy ∧ kx = ky ∧ cx = cy ∧ hsx = hsy ∧ ex = ey ∧ px = py) → R = false from fun h => by
    rw [← HR.out]; exact decide_eq_false (fun h2 => h (by simpa [RpK.key, and_assoc] using h2)))
  have Hyes := hid (show idx = idy → kx = ky → cx = cy → hsx = hsy → ex = ey → R = decide (px = py) from fun h1 h2 h3 h4 h5 => by
    rw [← HR.out]; subst h1 h2 h3 h4 h5; simp [sameRp, RpK.key])
  have KX := hid (show ds.map Sg.k = hsx from HX.out.keys); have KY := hid (show es.map Sg.k = hsy from HY.out.keys)
  have hexl : ex.length ≤ 1000 := SX.out.entries
  have heyl : ey.length ≤ 1000 := SY.out.entries
  have hpxl : px.length ≤ 1000000 := SX.out.proof
  have hpyl : py.length ≤ 1000000 := SY.out.proof
  by_cases c : idx = idy
  rotate_left
  · have d : (idx != idy) = true := by simpa using c
    have Hf := hid (Hno.out (fun h => c h.1))
    clear c
    go_wp2
    go_ret
    exact ⟨by rw [Hf.out]; rfl, Hb2.out⟩
  have q0 : (idx != idy) = false := by simpa using c
  have C0 := hid c; clear c
  by_cases c : kx = ky
  rotate_left
  · have d : (kx != ky) = true := by simpa using c
    have Hf := hid (Hno.out (fun h => c h.2.1))
    clear c
    go_wp2
    go_ret
    exact ⟨by rw [Hf.out]; rfl, Hb2.out⟩
  have q1 : (kx != ky) = false := by simpa using c
  have C1 := hid c; clear c
  by_cases c : cx = cy
  rotate_left
  · have d : (cx != cy) = true := by simpa using c
    have Hf := hid (Hno.out (fun h => c h.2.2.1))
    clear c
    go_wp2
    go_ret
    exact ⟨by rw [Hf.out]; rfl, Hb2.out⟩
  have q2 : (cx != cy) = false := by simpa using c
  have C2 := hid c; clear c
  by_cases c : ds.length = es.length
  rotate_left
  · have d : (((ds.length : Nat) : Int) != (es.length : Int)) = true := by simp; omega
    have Hf := hid (Hno.out (fun h => by have := congrArg List.length h.2.2.2.1; rw [← KX.out, ← KY.out, List.length_map, List.length_map] at this; exact c this))
    clear c
    go_wp2
    go_ret
    exact ⟨by rw [Hf.out]; rfl, Hb2.out⟩
  have q3 : (((ds.length : Nat) : Int) != (es.length : Int)) = false := by simp; omega
  have L0 := hid c; clear c
  by_cases c : ex.length = ey.length
  rotate_left
  · have d : (((ex.length : Nat) : Int) != (ey.length : Int)) = true := by simp; omega
    have Hf := hid (Hno.out (fun h => c (congrArg List.length h.2.2.2.2.1)))
    clear c
    go_wp2
    go_ret
    exact ⟨by rw [Hf.out]; rfl, Hb2.out⟩
  have q4 : (((ex.length : Nat) : Int) != (ey.length : Int)) = false := by simp; omega
  have L1 := hid c; clear c
  by_cases c : px.length = py.length
  rotate_left
  · have d : (((px.length : Nat) : Int) != (py.length : Int)) = true := by simp; omega
    have Hf := hid (Hno.out (fun h => c (congrArg List.length h.2.2.2.2.2)))
    clear c
    go_wp2
    go_ret
    exact ⟨by rw [Hf.out]; rfl, Hb2.out⟩
  have q5 : (((px.length : Nat) : Int) != (py.length : Int)) = false := by simp; omega
  have L2 := hid c; clear c
  go_upto_if 53 with fail
  go_cut [] (fun wx => wx = w2)
  case first =>
    go_wp2
    go_meet
    rfl
  case rest =>
  obtain rfl := hcut
  clear q0 q1 q2 q3 q4 q5 a0 a1 a2 b0 b1 b2
  go_wp2
  go_loopw [5] (fun i wr => ∃ k : Nat, k ≤ ds.length ∧ i = .int .i64 k ∧ (∀ i, i < k → ∀ (h1 : i < ds.length) (h2 : i < es.length), ds[i].k = es[i].k) ∧ Below wc.heap.size wc wr) (fun i _ => ds.length - (intOf i).toNat)
  case atStart => exact ⟨0, by omega, rfl, fun i h => (by omega), Below.refl _ _⟩
  case round =>
    obtain ⟨k, hk, rfl, htk, hbw⟩ := hrel
    have Htk := hid htk
    clear htk
    have a3' := (hbw.cell (p := ⟨w.heap.size, 3, none⟩) h1).trans a3
    have Hk1 := hid (hB1k.out.later hbw); have Hk2 := hid (hB2k.out.later hbw)
    have Hbw := hid hbw
    by_cases hlt : k < ds.length
    · have hlt2 : k < es.length := by rw [← L0.out]; exact hlt
      have hd1 := hid ((HX2.out.heads.ok ds[k] (List.getElem_mem hlt)).below hbw)
      have hd2 := hid ((HY2.out.heads.ok es[k] (List.getElem_mem hlt2)).below hbw)
      obtain ⟨b1, o1, rfl, hbl1, hcell1⟩ := (HX2.out.heads.below hbw).get hlt
      obtain ⟨b2, o2, rfl, hbl2, hcell2⟩ := (HY2.out.heads.below hbw).get hlt2
      have Hnx := hid (show ds[k].k = es[k].k → ∀ i, i < k + 1 → ∀ (h1 : i < ds.length) (h2 : i < es.length), ds[i].k = es[i].k from fun h i hi h1 h2 => by
        rcases Nat.lt_succ_iff_lt_or_eq.1 hi with h3 | rfl
        · exact Htk.out i h3 h1 h2
        · exact h)
      have Hne := hid (show ds[k].k ≠ es[k].k → R = false from fun h => Hno.out (fun h3 => h (by
        have := congrArg (fun l => l[k]?) (show ds.map Sg.k = es.map Sg.k by rw [KX.out, KY.out]; exact h3.2.2.2.1)
        simpa [hlt, hlt2] using this)))
      generalize ds[k] = d at *
      generalize es[k] = d' at *
      have hr := hd1.out.r32; have hr' := hd2.out.r32
      have Hsz := hid (show (Tryd.prog.info? 92).map (·.size) = some (sgA d.z d.root d.i d.sig d.p).size by rw [sgA_size hr]; exact Tryd.sizeSigned)
      have Hsz' := hid (show (Tryd.prog.info? 92).map (·.size) = some (sgA d'.z d'.root d'.i d'.sig d'.p).size by rw [sgA_size hr']; exact Tryd.sizeSigned)
      have Hc1 := hid (fun q : Later wr => lat_cells q hbl1 hcell1)
      have Hc2 := hid (fun q : Later wr => lat_cells q hbl2 hcell2)
      have CS := hid (fun q : Later wr => rsame10_any d d' (lat q) (hd1.out.below (lat_below q)) (hd2.out.below (lat_below q)))
      have hk64 : (k : Int) < (ds.length : Int) := by omega
      have hk65 : (k : Int) < (es.length : Int) := by omega
      clear hcell1 hcell2 hbw
      by_cases hxy : d.k = d'.k
      · have Hn := hid (Hnx.out hxy)
        rw [decide_eq_true hxy] at CS
        clear hxy
        go_wp2_with fail
        refine wp_region_later (by kernel_rfl) (by kernel_rfl) ?_
        repeat (first
          | (refine wpQuiet_load_one rfl 57 _ rfl ⟨w.heap.size, 3, none⟩ rfl (.slice (some ⟨b1, o1, none⟩) ds.length hac) _ (by rintro _ ⟨q, rfl⟩; exact (Blk.cell (Hk1.out.later (lat_below q)) 3)) Tryd.underlying57 rfl ?_; simp only [Act.put, List.setIfInBounds_toArray, List.set_cons_succ, List.set_cons_zero])
          | (refine wpQuiet_load_one rfl 57 _ rfl ⟨w.heap.size + 1, 3, none⟩ rfl (.slice (some ⟨b2, o2, none⟩) es.length hbc) _ (by rintro _ ⟨q, rfl⟩; exact (Blk.cell (Hk2.out.later (lat_below q)) 3)) Tryd.underlying57 rfl ?_; simp only [Act.put, List.setIfInBounds_toArray, List.set_cons_succ, List.set_cons_zero])
          | (refine wpQuiet_load_aggG rfl 92 _ rfl ⟨b1, o1 + k * 36, none⟩ rfl (sgA d.z d.root d.i d.sig d.p) _ (by rintro _ ⟨q, rfl⟩; exact Hc1.out q) Tryd.underlying92 rfl Hsz.out ?_; simp only [Act.put, List.setIfInBounds_toArray, List.set_cons_succ, List.set_cons_zero])
          | (refine wpQuiet_load_aggG rfl 92 _ rfl ⟨b2, o2 + k * 36, none⟩ rfl (sgA d'.z d'.root d'.i d'.sig d'.p) _ (by rintro _ ⟨q, rfl⟩; exact Hc2.out q) Tryd.underlying92 rfl Hsz'.out ?_; simp only [Act.put, List.setIfInBounds_toArray, List.set_cons_succ, List.set_cons_zero])
          | go_big_quiet_step ((first | (go_at_call 53; with_reducible exact calls_later (CS.out _)))))
        refine wpQuiet_nil ?_
        rintro _ ⟨q3, rfl⟩
        have hb3 := lat_below q3
        generalize lat q3 = w3 at *
        go_wp2
        go_roundw
        case rel => exact ⟨k + 1, by omega, by go_num, Hn.out, bth Hbw.out hb3⟩
        case measure => simp [intOf]; omega
      · have Hf := hid (Hne.out hxy)
        rw [decide_eq_false hxy] at CS
        clear hxy
        go_wp2_with fail
        refine wp_region_later (by kernel_rfl) (by kernel_rfl) ?_
        repeat (first
          | (refine wpQuiet_load_one rfl 57 _ rfl ⟨w.heap.size, 3, none⟩ rfl (.slice (some ⟨b1, o1, none⟩) ds.length hac) _ (by rintro _ ⟨q, rfl⟩; exact (Blk.cell (Hk1.out.later (lat_below q)) 3)) Tryd.underlying57 rfl ?_; simp only [Act.put, List.setIfInBounds_toArray, List.set_cons_succ, List.set_cons_zero])
          | (refine wpQuiet_load_one rfl 57 _ rfl ⟨w.heap.size + 1, 3, none⟩ rfl (.slice (some ⟨b2, o2, none⟩) es.length hbc) _ (by rintro _ ⟨q, rfl⟩; exact (Blk.cell (Hk2.out.later (lat_below q)) 3)) Tryd.underlying57 rfl ?_; simp only [Act.put, List.setIfInBounds_toArray, List.set_cons_succ, List.set_cons_zero])
          | (refine wpQuiet_load_aggG rfl 92 _ rfl ⟨b1, o1 + k * 36, none⟩ rfl (sgA d.z d.root d.i d.sig d.p) _ (by rintro _ ⟨q, rfl⟩; exact Hc1.out q) Tryd.underlying92 rfl Hsz.out ?_; simp only [Act.put, List.setIfInBounds_toArray, List.set_cons_succ, List.set_cons_zero])
          | (refine wpQuiet_load_aggG rfl 92 _ rfl ⟨b2, o2 + k * 36, none⟩ rfl (sgA d'.z d'.root d'.i d'.sig d'.p) _ (by rintro _ ⟨q, rfl⟩; exact Hc2.out q) Tryd.underlying92 rfl Hsz'.out ?_; simp only [Act.put, List.setIfInBounds_toArray, List.set_cons_succ, List.set_cons_zero])
          | go_big_quiet_step ((first | (go_at_call 53; with_reducible exact calls_later (CS.out _)))))
        refine wpQuiet_nil ?_
        rintro _ ⟨q3, rfl⟩
        have hb3 := lat_below q3
        generalize lat q3 = w3 at *
        go_wp2
        go_ret
        exact ⟨by rw [Hf.out]; rfl, bth Hb2.out (bth Hbw.out hb3)⟩
    · obtain rfl : k = ds.length := by omega
      have C3 := hid (show hsx = hsy by
        have := keys_take_eq (fun i h h1 h2 => Htk.out i h h1 h2) L0.out
        rw [KX.out, KY.out] at this; exact this)
      clear hbw
      go_wp2
      generalize wr = wv at *
      go_loopw [6] (fun i wr => ∃ k : Nat, k ≤ ex.length ∧ i = .int .i64 k ∧ ex.take k = ey.take k ∧ Below wv.heap.size wv wr) (fun i _ => ex.length - (intOf i).toNat)
      case atStart => exact ⟨0, by omega, rfl, by simp, Below.refl _ _⟩
      case round =>
        obtain ⟨k, hk, rfl, htk, hbv⟩ := hrel
        have Htk2 := hid htk
        clear htk
        have hbw2 := Hbw.out.trans (hbv.mono Hbw.out.size)
        have a4' := (hbw2.cell (p := ⟨w.heap.size, 4, none⟩) h1).trans a4
        have Hk1 := hid (hB1k.out.later hbw2); have Hk2 := hid (hB2k.out.later hbw2)
        have Hbv := hid hbv
        have Hbw2 := hid hbw2
        by_cases hlt : k < ex.length
        · have hlt2 : k < ey.length := by rw [← L1.out]; exact hlt
          obtain ⟨b1, o1, rfl, hbl1, hcell1⟩ := (HX2.out.entries.below hbw2).at hlt
          obtain ⟨b2, o2, rfl, hbl2, hcell2⟩ := (HY2.out.entries.below hbw2).at hlt2
          have hta := hid (show ex.take (k + 1) = ex.take k ++ [ex[k]] from List.take_succ_eq_append_getElem hlt)
          have htb := hid (show ey.take (k + 1) = ey.take k ++ [ey[k]] from List.take_succ_eq_append_getElem hlt2)
          have Hne := hid (show ex[k] ≠ ey[k] → R = false from fun h => Hno.out (fun h3 => h (by
            have := congrArg (fun l => l[k]?) h3.2.2.2.2.1
            simpa [hlt, hlt2] using this)))
          generalize ex[k] = x at *
          generalize ey[k] = y at *
          have Hc1 := hid (fun q : Later wr => (lat_cell q b1 (o1 + k) hbl1).trans hcell1)
          have Hc2 := hid (fun q : Later wr => (lat_cell q b2 (o2 + k) hbl2).trans hcell2)
          have hk64 : (k : Int) < (ex.length : Int) := by omega
          have hk65 : (k : Int) < (ey.length : Int) := by omega
          clear hcell1 hcell2 hbw2 hbv
          by_cases hxy : x = y
          · have hq : (x == y) = true := by simpa using hxy
            have Hxy := hid hxy
            clear hxy
            go_wp2_with fail
            refine wp_region_later (by kernel_rfl) (by kernel_rfl) ?_
            repeat (first
              | (refine wpQuiet_load_one rfl 56 _ rfl ⟨w.heap.size, 4, none⟩ rfl (.slice (some ⟨b1, o1, none⟩) ex.length eac) _ (by rintro _ ⟨q, rfl⟩; exact (Blk.cell (Hk1.out.later (lat_below q)) 4)) Tryd.underlying56 rfl ?_; simp only [Act.put, List.setIfInBounds_toArray, List.set_cons_succ, List.set_cons_zero])
              | (refine wpQuiet_load_one rfl 56 _ rfl ⟨w.heap.size + 1, 4, none⟩ rfl (.slice (some ⟨b2, o2, none⟩) ey.length ebc) _ (by rintro _ ⟨q, rfl⟩; exact (Blk.cell (Hk2.out.later (lat_below q)) 4)) Tryd.underlying56 rfl ?_; simp only [Act.put, List.setIfInBounds_toArray, List.set_cons_succ, List.set_cons_zero])
              | (refine wpQuiet_load_one rfl 9 _ rfl ⟨b1, o1 + k, none⟩ rfl (sv x) _ (by rintro _ ⟨q, rfl⟩; exact Hc1.out q) Tryd.underlying9 rfl ?_; simp only [Act.put, List.setIfInBounds_toArray, List.set_cons_succ, List.set_cons_zero])
              | (refine wpQuiet_load_one rfl 9 _ rfl ⟨b2, o2 + k, none⟩ rfl (sv y) _ (by rintro _ ⟨q, rfl⟩; exact Hc2.out q) Tryd.underlying9 rfl ?_; simp only [Act.put, List.setIfInBounds_toArray, List.set_cons_succ, List.set_cons_zero])
              | go_big_quiet_step (fail))
            refine wpQuiet_nil ?_
            rintro _ ⟨q3, rfl⟩
            have hb3 := lat_below q3
            generalize lat q3 = w3 at *
            go_wp2
            go_roundw
            case rel => exact ⟨k + 1, by omega, by go_num, by rw [hta.out, htb.out, Htk2.out, Hxy.out], bth Hbv.out hb3⟩
            case measure => simp [intOf]; omega
          · have hq : (x == y) = false := by simpa using hxy
            have Hf := hid (Hne.out hxy)
            clear hxy
            go_wp2_with fail
            refine wp_region_later (by kernel_rfl) (by kernel_rfl) ?_
            repeat (first
              | (refine wpQuiet_load_one rfl 56 _ rfl ⟨w.heap.size, 4, none⟩ rfl (.slice (some ⟨b1, o1, none⟩) ex.length eac) _ (by rintro _ ⟨q, rfl⟩; exact (Blk.cell (Hk1.out.later (lat_below q)) 4)) Tryd.underlying56 rfl ?_; simp only [Act.put, List.setIfInBounds_toArray, List.set_cons_succ, List.set_cons_zero])
              | (refine wpQuiet_load_one rfl 56 _ rfl ⟨w.heap.size + 1, 4, none⟩ rfl (.slice (some ⟨b2, o2, none⟩) ey.length ebc) _ (by rintro _ ⟨q, rfl⟩; exact (Blk.cell (Hk2.out.later (lat_below q)) 4)) Tryd.underlying56 rfl ?_; simp only [Act.put, List.setIfInBounds_toArray, List.set_cons_succ, List.set_cons_zero])
              | (refine wpQuiet_load_one rfl 9 _ rfl ⟨b1, o1 + k, none⟩ rfl (sv x) _ (by rintro _ ⟨q, rfl⟩; exact Hc1.out q) Tryd.underlying9 rfl ?_; simp only [Act.put, List.setIfInBounds_toArray, List.set_cons_succ, List.set_cons_zero])
              | (refine wpQuiet_load_one rfl 9 _ rfl ⟨b2, o2 + k, none⟩ rfl (sv y) _ (by rintro _ ⟨q, rfl⟩; exact Hc2.out q) Tryd.underlying9 rfl ?_; simp only [Act.put, List.setIfInBounds_toArray, List.set_cons_succ, List.set_cons_zero])
              | go_big_quiet_step (fail))
            refine wpQuiet_nil ?_
            rintro _ ⟨q3, rfl⟩
            have hb3 := lat_below q3
            generalize lat q3 = w3 at *
            go_wp2
            go_ret
            exact ⟨by rw [Hf.out]; rfl, bth Hb2.out (bth Hbw2.out hb3)⟩
        · obtain rfl : k = ex.length := by omega
          have C4 := hid (show ex = ey by
            have := Htk2.out
            rw [List.take_length, L1.out, List.take_length] at this
            exact this)
          clear hbw2 hbv
          go_wp2
          generalize wr = wu at *
          go_loopw [7] (fun i wr => ∃ k : Nat, k ≤ px.length ∧ i = .int .i64 k ∧ px.take k = py.take k ∧ Below wu.heap.size wu wr) (fun i _ => px.length - (intOf i).toNat)
          case atStart => exact ⟨0, by omega, rfl, by simp, Below.refl _ _⟩
          case round =>
            obtain ⟨k, hk, rfl, htk, hbu⟩ := hrel
            have Htk3 := hid htk
            clear htk
            have hbw3 := Hbw2.out.trans (hbu.mono Hbw2.out.size)
            have a5' := (hbw3.cell (p := ⟨w.heap.size, 5, none⟩) h1).trans a5
            have Hk1 := hid (hB1k.out.later hbw3); have Hk2 := hid (hB2k.out.later hbw3)
            have Hbu := hid hbu
            have Hbw3 := hid hbw3
            by_cases hlt : k < px.length
            · have hlt2 : k < py.length := by rw [← L2.out]; exact hlt
              obtain ⟨b1, o1, rfl, hbl1, hcl1, hcell1⟩ := (HX2.out.proof.below hbw3 (Nat.le_refl _)).at (i := k) (cs := px[k].map bcell) (by simp [hcs, hlt])
              obtain ⟨b2, o2, rfl, hbl2, hcl2, hcell2⟩ := (HY2.out.proof.below hbw3 (Nat.le_refl _)).at (i := k) (cs := py[k].map bcell) (by simp [hcs, hlt2])
              have hta := hid (show px.take (k + 1) = px.take k ++ [px[k]] from List.take_succ_eq_append_getElem hlt)
              have htb := hid (show py.take (k + 1) = py.take k ++ [py[k]] from List.take_succ_eq_append_getElem hlt2)
              have Hne := hid (show px[k] ≠ py[k] → R = false from fun h => Hno.out (fun h3 => h (by
                have := congrArg (fun l => l[k]?) h3.2.2.2.2.2
                simpa [hlt, hlt2] using this)))
              generalize px[k] = x at *
              generalize py[k] = y at *
              have hx : x.length = 32 := by simpa using hcl1
              have hy : y.length = 32 := by simpa using hcl2
              have Hsx := hid (show (Tryd.prog.info? 29).map (·.size) = some x.length by rw [hx]; exact Tryd.sizeHash)
              have Hsy := hid (show (Tryd.prog.info? 29).map (·.size) = some y.length by rw [hy]; exact Tryd.sizeHash)
              have hs5 := Tryd.sizeU8
              have hge := Tryd.guardHash10
              have Hc1 := hid (fun q : Later wr => lat_cells q hbl1 hcell1); have Hc2 := hid (fun q : Later wr => lat_cells q hbl2 hcell2)
              have hk64 : (k : Int) < (px.length : Int) := by omega
              have hk65 : (k : Int) < (py.length : Int) := by omega
              clear hcell1 hcell2 hcl1 hcl2 hbw3 hbu
              by_cases hxy : x = y
              · have hq : (x == y) = true := by simpa using hxy
                have Hxy := hid hxy
                clear hxy
                go_wp2_with fail
                refine wp_region_later (by kernel_rfl) (by kernel_rfl) ?_
                repeat (first
                  | (refine wpQuiet_load_one rfl 22 _ rfl ⟨w.heap.size, 5, none⟩ rfl (.slice (some ⟨b1, o1, none⟩) px.length pac) _ (by rintro _ ⟨q, rfl⟩; exact (Blk.cell (Hk1.out.later (lat_below q)) 5)) Tryd.underlying22 rfl ?_; simp only [Act.put, List.setIfInBounds_toArray, List.set_cons_succ, List.set_cons_zero])
                  | (refine wpQuiet_load_one rfl 22 _ rfl ⟨w.heap.size + 1, 5, none⟩ rfl (.slice (some ⟨b2, o2, none⟩) py.length pbc) _ (by rintro _ ⟨q, rfl⟩; exact (Blk.cell (Hk2.out.later (lat_below q)) 5)) Tryd.underlying22 rfl ?_; simp only [Act.put, List.setIfInBounds_toArray, List.set_cons_succ, List.set_cons_zero])
                  | (refine wpQuiet_load_hcG rfl 29 _ rfl ⟨b1, o1 + k * 32, none⟩ rfl x _ (by rintro _ ⟨q, rfl⟩; exact Hc1.out q) Tryd.underlying29 rfl Hsx.out ?_; simp only [Act.put, List.setIfInBounds_toArray, List.set_cons_succ, List.set_cons_zero])
                  | (refine wpQuiet_load_hcG rfl 29 _ rfl ⟨b2, o2 + k * 32, none⟩ rfl y _ (by rintro _ ⟨q, rfl⟩; exact Hc2.out q) Tryd.underlying29 rfl Hsy.out ?_; simp only [Act.put, List.setIfInBounds_toArray, List.set_cons_succ, List.set_cons_zero])
                  | go_big_quiet_step (fail))
                refine wpQuiet_nil ?_
                rintro _ ⟨q3, rfl⟩
                have hb3 := lat_below q3
                generalize lat q3 = w3 at *
                go_wp2
                go_roundw
                case rel => exact ⟨k + 1, by omega, by go_num, by rw [hta.out, htb.out, Htk3.out, Hxy.out], bth Hbu.out hb3⟩
                case measure => simp [intOf]; omega
              · have hq : (x == y) = false := by simpa using hxy
                have Hf := hid (Hne.out hxy)
                clear hxy
                go_wp2_with fail
                refine wp_region_later (by kernel_rfl) (by kernel_rfl) ?_
                repeat (first
                  | (refine wpQuiet_load_one rfl 22 _ rfl ⟨w.heap.size, 5, none⟩ rfl (.slice (some ⟨b1, o1, none⟩) px.length pac) _ (by rintro _ ⟨q, rfl⟩; exact (Blk.cell (Hk1.out.later (lat_below q)) 5)) Tryd.underlying22 rfl ?_; simp only [Act.put, List.setIfInBounds_toArray, List.set_cons_succ, List.set_cons_zero])
                  | (refine wpQuiet_load_one rfl 22 _ rfl ⟨w.heap.size + 1, 5, none⟩ rfl (.slice (some ⟨b2, o2, none⟩) py.length pbc) _ (by rintro _ ⟨q, rfl⟩; exact (Blk.cell (Hk2.out.later (lat_below q)) 5)) Tryd.underlying22 rfl ?_; simp only [Act.put, List.setIfInBounds_toArray, List.set_cons_succ, List.set_cons_zero])
                  | (refine wpQuiet_load_hcG rfl 29 _ rfl ⟨b1, o1 + k * 32, none⟩ rfl x _ (by rintro _ ⟨q, rfl⟩; exact Hc1.out q) Tryd.underlying29 rfl Hsx.out ?_; simp only [Act.put, List.setIfInBounds_toArray, List.set_cons_succ, List.set_cons_zero])
                  | (refine wpQuiet_load_hcG rfl 29 _ rfl ⟨b2, o2 + k * 32, none⟩ rfl y _ (by rintro _ ⟨q, rfl⟩; exact Hc2.out q) Tryd.underlying29 rfl Hsy.out ?_; simp only [Act.put, List.setIfInBounds_toArray, List.set_cons_succ, List.set_cons_zero])
                  | go_big_quiet_step (fail))
                refine wpQuiet_nil ?_
                rintro _ ⟨q3, rfl⟩
                have hb3 := lat_below q3
                generalize lat q3 = w3 at *
                go_wp2
                go_ret
                exact ⟨by rw [Hf.out]; rfl, bth Hb2.out (bth Hbw3.out hb3)⟩
            · obtain rfl : k = px.length := by omega
              have C5 := show px = py by
                have := Htk3.out
                rw [List.take_length, L2.out, List.take_length] at this
                exact this
              have Hfin := hid (show R = true by rw [Hyes.out C0.out C1.out C2.out C3.out C4.out, decide_eq_true C5])
              clear hbw3 hbu C5
              go_wp2
              go_ret
              exact ⟨by rw [Hfin.out]; rfl, bth Hb2.out Hbw3.out⟩
end Go.Proofs.YtbpjlancjdbehaaDoor
