/- messages.Same -/
import Derived.Test.YtjpnlnbpaecciaaQEqual
import Derived.Test.YtjpnlnbpaecciaaQMsgSigned

set_option maxRecDepth 100000
namespace Go.Proofs.Ytjpnlnbpaecciaa
open Go.RowKit Go.Spec
set_option maxHeartbeats 4000000 in
theorem eqSigned_any (d d' : Sg) (w : World) (h : d.In w) (h' : d'.In w) :
    Calls Try.prog 66 #[.agg (sgA d.z d.root d.i d.sig d.p), .agg (sgA d'.z d'.root d'.i d'.sig d'.p)] w fun e w' => e = .returned (.bool (decide (d.k = d'.k))) ∧ Below w.heap.size w w' := by
  obtain ⟨z, root, i, sig, path, a, cap⟩ := d
  obtain ⟨z', root', i', sig', path', a', cap'⟩ := d'
  have hr := h.r32; have hr' := h'.r32
  have Hp := hid h.at_; have Hp' := hid h'.at_
  have hpl := h.pl; have hpl' := h'.pl
  simp only [Sg.p] at hr hr' hpl hpl' ⊢
  clear h h'
  have hgd := Try.guardHead
  have Hs36 := hid (show (Try.prog.info? 36).map (·.size) = some (hdA z root).size by rw [hdA_size hr]; exact Try.sizeHead)
  have Hs36' := hid (show (Try.prog.info? 36).map (·.size) = some (hdA z' root').size by rw [hdA_size hr']; exact Try.sizeHead)
  obtain ⟨R, hR⟩ : ∃ R, decide (Sg.k ⟨z, root, i, sig, path, a, cap⟩ = Sg.k ⟨z', root', i', sig', path', a', cap'⟩) = R := ⟨_, rfl⟩
  have HR := hid hR
  rw [hR]
  clear hR
  generalize hA : sgA z root i sig (.slice a path.length cap) = A at *
  generalize hA' : sgA z' root' i' sig' (.slice a' path'.length cap') = A' at *
  have HB0 := hid (show Blk ((w.alloc (.cells A 41)).alloc (.cells A' 41)) w.heap.size (sgA z root i sig (.slice a path.length cap)) 41 by rw [hA]; exact (Blk.new _ _ _).alloc _)
  have HB1 := hid (show Blk ((w.alloc (.cells A 41)).alloc (.cells A' 41)) (w.heap.size + 1) (sgA z' root' i' sig' (.slice a' path'.length cap')) 41 by rw [hA']; exact Blk.new' _ _ _ (by simp))
  have HW := hid (((Below.refl _ w).alloc (Nat.le_refl _) (.cells A 41)).alloc (by simp) (.cells A' 41))
  clear hA hA'
  go_enter Try.func66, Try.ntmps66
  go_upto_region 1 with fail
  have hww : ((w.alloc (.cells A 41)).alloc (.cells A' 41)).heap.size = w.heap.size + 2 := by simp
  have cA0 : ((w.alloc (.cells A 41)).alloc (.cells A' 41)).cell? ⟨w.heap.size, 33, none⟩ = some (.int .i64 i) := HB0.out.sg33 hr
  have cA1 : ((w.alloc (.cells A 41)).alloc (.cells A' 41)).cell? ⟨w.heap.size + 1, 33, none⟩ = some (.int .i64 i') := HB1.out.sg33 hr'
  have cA2 : ((w.alloc (.cells A 41)).alloc (.cells A' 41)).cell? ⟨w.heap.size, 34, none⟩ = some (sv sig) := HB0.out.sg34 hr
  have cA3 : ((w.alloc (.cells A 41)).alloc (.cells A' 41)).cell? ⟨w.heap.size + 1, 34, none⟩ = some (sv sig') := HB1.out.sg34 hr'
  have cA4 : ((w.alloc (.cells A 41)).alloc (.cells A' 41)).cell? ⟨w.heap.size, 35, none⟩ = some (.slice a path.length cap) := HB0.out.sg35 hr
  have cA5 : ((w.alloc (.cells A 41)).alloc (.cells A' 41)).cell? ⟨w.heap.size + 1, 35, none⟩ = some (.slice a' path'.length cap') := HB1.out.sg35 hr'
  generalize ((w.alloc (.cells A 41)).alloc (.cells A' 41)) = w2 at *
  by_cases hh : z = z' ∧ root = root'
  rotate_left
  · have d1 : (decide (z = z') && root == root') = false := by
      rw [Bool.eq_false_iff]; simp; exact fun h1 h2 => hh ⟨h1, h2⟩
    have hE : ∀ w, (Op.equalIn 10000 36 (.agg (hdA z root)) (.agg (hdA z' root'))).run Try.prog w = .ok false w := fun w => by rw [equalHead z z' root root' hr hr' w, d1]
    clear d1
    have Hf := hid (show R = false by rw [← HR.out]; exact decide_eq_false (fun h => hh (by simp only [Sg.k, Prod.mk.injEq] at h; exact ⟨h.1, h.2.1⟩)))
    clear hh
    go_wp2_with (first
      | ((with_reducible show wpList _ _ _ ({ dst := _, op := Op.load 36 _, type := _, pos := _, after := _, guard := _ } :: _) _ _); refine wpList_load_cs rfl 36 _ rfl ⟨w.heap.size, 0, none⟩ rfl (hdA z root) _ HB0.out.sgHead Try.underlying36 rfl Hs36.out ?_)
      | ((with_reducible show wpList _ _ _ ({ dst := _, op := Op.load 36 _, type := _, pos := _, after := _, guard := _ } :: _) _ _); refine wpList_load_cs rfl 36 _ rfl ⟨w.heap.size + 1, 0, none⟩ rfl (hdA z' root') _ HB1.out.sgHead Try.underlying36 rfl Hs36'.out ?_))
    go_ret
    exact ⟨by rw [Hf.out]; rfl, HW.out⟩
  obtain ⟨rfl, rfl⟩ := hh
  have hE : ∀ w, (Op.equalIn 10000 36 (.agg (hdA z root)) (.agg (hdA z root))).run Try.prog w = .ok true w := fun w => by rw [equalHead z z root root hr hr w]; simp
  by_cases hh : i = i'
  rotate_left
  · have dq : (i == i') = false := by simpa using hh
    have Hf := hid (show R = false by rw [← HR.out]; exact decide_eq_false (fun h => hh (by simp only [Sg.k, Prod.mk.injEq] at h; exact h.2.2.1)))
    clear hh
    go_wp2_with (first
      | ((with_reducible show wpList _ _ _ ({ dst := _, op := Op.load 36 _, type := _, pos := _, after := _, guard := _ } :: _) _ _); refine wpList_load_cs rfl 36 _ rfl ⟨w.heap.size, 0, none⟩ rfl (hdA z root) _ HB0.out.sgHead Try.underlying36 rfl Hs36.out ?_)
      | ((with_reducible show wpList _ _ _ ({ dst := _, op := Op.load 36 _, type := _, pos := _, after := _, guard := _ } :: _) _ _); refine wpList_load_cs rfl 36 _ rfl ⟨w.heap.size + 1, 0, none⟩ rfl (hdA z root) _ HB1.out.sgHead Try.underlying36 rfl Hs36'.out ?_))
    go_ret
    exact ⟨by rw [Hf.out]; rfl, HW.out⟩
  obtain rfl := hh
  have dq1 : (i == i) = true := by simp
  by_cases hh : sig = sig'
  rotate_left
  · have dq : (sig == sig') = false := by simpa using hh
    have Hf := hid (show R = false by rw [← HR.out]; exact decide_eq_false (fun h => hh (by simp only [Sg.k, Prod.mk.injEq] at h; exact h.2.2.2.1)))
    clear hh
    go_wp2_with (first
      | ((with_reducible show wpList _ _ _ ({ dst := _, op := Op.load 36 _, type := _, pos := _, after := _, guard := _ } :: _) _ _); refine wpList_load_cs rfl 36 _ rfl ⟨w.heap.size, 0, none⟩ rfl (hdA z root) _ HB0.out.sgHead Try.underlying36 rfl Hs36.out ?_)
      | ((with_reducible show wpList _ _ _ ({ dst := _, op := Op.load 36 _, type := _, pos := _, after := _, guard := _ } :: _) _ _); refine wpList_load_cs rfl 36 _ rfl ⟨w.heap.size + 1, 0, none⟩ rfl (hdA z root) _ HB1.out.sgHead Try.underlying36 rfl Hs36'.out ?_))
    go_ret
    exact ⟨by rw [Hf.out]; rfl, HW.out⟩
  obtain rfl := hh
  have dq2 : (sig == sig) = true := by simp
  have Hf := hid (show R = decide (path = path') by rw [← HR.out]; simp [Sg.k])
  have CE := hid (eqHashes_any _ _ path path' w2 (Hp.out.below HW.out (Nat.le_refl _)) (Hp'.out.below HW.out (Nat.le_refl _)) hpl hpl')
  go_wp2_with (first
    | ((with_reducible show wpList _ _ _ ({ dst := _, op := Op.load 36 _, type := _, pos := _, after := _, guard := _ } :: _) _ _); refine wpList_load_cs rfl 36 _ rfl ⟨w.heap.size, 0, none⟩ rfl (hdA z root) _ HB0.out.sgHead Try.underlying36 rfl Hs36.out ?_)
    | ((with_reducible show wpList _ _ _ ({ dst := _, op := Op.load 36 _, type := _, pos := _, after := _, guard := _ } :: _) _ _); refine wpList_load_cs rfl 36 _ rfl ⟨w.heap.size + 1, 0, none⟩ rfl (hdA z root) _ HB1.out.sgHead Try.underlying36 rfl Hs36'.out ?_)
    | (go_at_call 67; refine (CE.out).mono ?_; rintro e w3 ⟨rfl, hb3⟩))
  go_ret
  exact ⟨by rw [Hf.out]; rfl, bth HW.out hb3⟩
theorem keys_take_eq {ds es : List Sg} (h : ∀ i : Nat, i < ds.length → ∀ (h1 : i < ds.length) (h2 : i < es.length), ds[i].k = es[i].k) (hl : ds.length = es.length) : ds.map Sg.k = es.map Sg.k := by
  apply List.ext_getElem
  · simpa using hl
  · intro i h1 h2
    simp only [List.length_map] at h1 h2
    simp only [List.getElem_map]
    exact h i h1 h1 h2
set_option maxHeartbeats 4000000 in
theorem eqFunc_any (va vb : Value) (ds es : List Sg) (w : World) (ha : SgsAt w va ds) (hb : SgsAt w vb es) (hn : ds.length ≤ 1000000) (hn2 : es.length ≤ 1000000) :
    Calls Try.prog 68 #[va, vb, .func (.func 66) #[] #[]] w fun e w' => e = .returned (.bool (decide (ds.map Sg.k = es.map Sg.k))) ∧ Below w.heap.size w w' := by
  obtain ⟨a, cap, rfl, hcap⟩ := ha.form
  obtain ⟨b, cap2, rfl, hcap2⟩ := hb.form
  have Ha := hid ha; have Hb := hid hb
  clear ha hb
  obtain ⟨R, hR⟩ : ∃ R, decide (ds.map Sg.k = es.map Sg.k) = R := ⟨_, rfl⟩
  have HR := hid hR
  rw [hR]
  clear hR
  by_cases hl : ds.length = es.length
  rotate_left
  · have hd : (((ds.length : Nat) : Int) != (es.length : Int)) = true := by simp; omega
    have Hfin := hid (show R = false by rw [← HR.out]; exact decide_eq_false fun h => hl (by simpa using congrArg List.length h))
    clear hl
    go_enter Try.func68, Try.ntmps68
    go_wp2
    go_ret
    exact ⟨by rw [Hfin.out]; rfl, Below.refl _ _⟩
  have hd : (((ds.length : Nat) : Int) != (es.length : Int)) = false := by simp [hl]
  have HL := hid hl
  clear hl
  go_enter Try.func68, Try.ntmps68
  go_wp2
  go_loopw [17] (fun i wr => ∃ k : Nat, k ≤ ds.length ∧ i = .int .i64 k ∧ (∀ i, i < k → ∀ (h1 : i < ds.length) (h2 : i < es.length), ds[i].k = es[i].k) ∧ Below w.heap.size w wr) (fun i _ => ds.length - (intOf i).toNat)
  case atStart => exact ⟨0, by omega, rfl, fun i h => (by omega), Below.refl _ _⟩
  case round =>
    obtain ⟨k, hk, rfl, htk, hbw⟩ := hrel
    have Htk := hid htk
    clear htk
    by_cases hlt : k < ds.length
    · have hlt2 : k < es.length := by rw [← HL.out]; exact hlt
      have hd1 := (Ha.out.ok ds[k] (List.getElem_mem hlt)).below hbw
      have hd2 := (Hb.out.ok es[k] (List.getElem_mem hlt2)).below hbw
      obtain ⟨b1, o1, rfl, hbl1, hcell1⟩ := (Ha.out.below hbw).get hlt
      obtain ⟨b2, o2, rfl, hbl2, hcell2⟩ := (Hb.out.below hbw).get hlt2
      have Hnx := hid (show ds[k].k = es[k].k → ∀ i, i < k + 1 → ∀ (h1 : i < ds.length) (h2 : i < es.length), ds[i].k = es[i].k from fun h i hi h1 h2 => by
        rcases Nat.lt_succ_iff_lt_or_eq.1 hi with h3 | rfl
        · exact Htk.out i h3 h1 h2
        · exact h)
      have Hno := hid (show ds[k].k ≠ es[k].k → R = false from fun h => by
        rw [← HR.out]
        exact decide_eq_false fun h2 => h (by
          have := congrArg (fun l => l[k]?) h2
          simpa [hlt, hlt2] using this))
      generalize ds[k] = d at *
      generalize es[k] = d' at *
      have hr := hd1.r32; have hr' := hd2.r32
      have Hsz := hid (show (Try.prog.info? 41).map (·.size) = some (sgA d.z d.root d.i d.sig d.p).size by rw [sgA_size hr]; exact Try.sizeSigned)
      have Hsz' := hid (show (Try.prog.info? 41).map (·.size) = some (sgA d'.z d'.root d'.i d'.sig d'.p).size by rw [sgA_size hr']; exact Try.sizeSigned)
      have Hs36 := hid (sgA_size (z := d.z) (i := d.i) (sig := d.sig) (p := d.p) hr)
      have Hs36' := hid (sgA_size (z := d'.z) (i := d'.i) (sig := d'.sig) (p := d'.p) hr')
      have Hc1 := hid hcell1
      have HbA := hid ((Below.refl _ wr).alloc (Nat.le_refl _) (.cells (sgA d.z d.root d.i d.sig d.p) 41))
      have Hc2 := hid (lat_cells (w := wr) ⟨_, HbA.out⟩ hbl2 hcell2)
      have HbB := hid (((Below.refl _ wr).alloc (Nat.le_refl _) (.cells (sgA d.z d.root d.i d.sig d.p) 41)).alloc (by simp) (.cells (sgA d'.z d'.root d'.i d'.sig d'.p) 41))
      have HX1 := hid (show Blk ((wr.alloc (.cells (sgA d.z d.root d.i d.sig d.p) 41)).alloc (.cells (sgA d'.z d'.root d'.i d'.sig d'.p) 41)) wr.heap.size (sgA d.z d.root d.i d.sig d.p) 41 from (Blk.new _ _ _).alloc _)
      have HsA := hid (show (wr.alloc (.cells (sgA d.z d.root d.i d.sig d.p) 41)).heap.size = wr.heap.size + 1 by simp)
      have CS := hid (eqSigned_any d d' _ (hd1.below HbB.out) (hd2.below HbB.out))
      have hk64 : (k : Int) < (ds.length : Int) := by omega
      have hk65 : (k : Int) < (es.length : Int) := by omega
      clear hcell1 hcell2 hd1 hd2
      by_cases hxy : d.k = d'.k
      · have Hn := hid (Hnx.out hxy)
        rw [decide_eq_true hxy] at CS
        clear hxy
        go_wp2_with (first
          | ((with_reducible show wpList _ _ _ ({ dst := _, op := Op.load 41 _, type := _, pos := _, after := _, guard := _ } :: _) _ _); refine wpList_load_cs rfl 41 _ rfl ⟨b1, o1 + k * 36, none⟩ rfl _ _ Hc1.out Try.underlying41 rfl Hsz.out ?_)
          | ((with_reducible show wpList _ _ _ ({ dst := _, op := Op.load 41 _, type := _, pos := _, after := _, guard := _ } :: _) _ _); refine wpList_load_cs rfl 41 _ rfl ⟨b2, o2 + k * 36, none⟩ rfl _ _ Hc2.out Try.underlying41 rfl Hsz'.out ?_)
          | ((with_reducible show wpList _ _ _ ({ dst := _, op := Op.store _ _ _, type := _, pos := _, after := _, guard := _ } :: _) _ _); refine wpList_store_newA rfl 41 _ _ rfl rfl (sgA d.z d.root d.i d.sig d.p) rfl _ 41 (by rw [Hs36.out]; rfl) Hsz.out (sgA_one rfl) ?_)
          | ((with_reducible show wpList _ _ _ ({ dst := _, op := Op.store _ _ _, type := _, pos := _, after := _, guard := _ } :: _) _ _); refine wpList_store_newA rfl 41 _ _ rfl (by show Value.pointer (some ⟨wr.heap.size + 1, 0, none⟩) = _; rw [HsA.out]) (sgA d'.z d'.root d'.i d'.sig d'.p) rfl _ 41 (by rw [Hs36'.out]; rfl) Hsz'.out (sgA_one rfl) ?_)
          | ((with_reducible show wpList _ _ _ ({ dst := _, op := Op.load 41 _, type := _, pos := _, after := _, guard := _ } :: _) _ _); refine wpList_load_blk rfl 41 _ rfl wr.heap.size rfl 41 (sgA d.z d.root d.i d.sig d.p) _ HX1.out Try.underlying41 rfl Hsz.out ?_)
          | ((with_reducible show wpList _ _ _ ({ dst := _, op := Op.load 41 _, type := _, pos := _, after := _, guard := _ } :: _) _ _); refine wpList_load_newA rfl 41 _ rfl (by show Value.pointer (some ⟨wr.heap.size + 1, 0, none⟩) = _; rw [HsA.out]) (sgA d'.z d'.root d'.i d'.sig d'.p) 41 _ Try.underlying41 rfl Hsz'.out ?_)
          | (go_at_call 66; refine (CS.out).mono ?_; rintro e w3 ⟨rfl, hb3⟩))
        go_roundw
        case rel => exact ⟨k + 1, by omega, by go_num, Hn.out, hbw.trans (HbB.out.trans (hb3.mono HbB.out.size) |>.mono hbw.size)⟩
        case measure => simp [intOf]; omega
      · have Hf := hid (Hno.out hxy)
        rw [decide_eq_false hxy] at CS
        clear hxy
        go_wp2_with (first
          | ((with_reducible show wpList _ _ _ ({ dst := _, op := Op.load 41 _, type := _, pos := _, after := _, guard := _ } :: _) _ _); refine wpList_load_cs rfl 41 _ rfl ⟨b1, o1 + k * 36, none⟩ rfl _ _ Hc1.out Try.underlying41 rfl Hsz.out ?_)
          | ((with_reducible show wpList _ _ _ ({ dst := _, op := Op.load 41 _, type := _, pos := _, after := _, guard := _ } :: _) _ _); refine wpList_load_cs rfl 41 _ rfl ⟨b2, o2 + k * 36, none⟩ rfl _ _ Hc2.out Try.underlying41 rfl Hsz'.out ?_)
          | ((with_reducible show wpList _ _ _ ({ dst := _, op := Op.store _ _ _, type := _, pos := _, after := _, guard := _ } :: _) _ _); refine wpList_store_newA rfl 41 _ _ rfl rfl (sgA d.z d.root d.i d.sig d.p) rfl _ 41 (by rw [Hs36.out]; rfl) Hsz.out (sgA_one rfl) ?_)
          | ((with_reducible show wpList _ _ _ ({ dst := _, op := Op.store _ _ _, type := _, pos := _, after := _, guard := _ } :: _) _ _); refine wpList_store_newA rfl 41 _ _ rfl (by show Value.pointer (some ⟨wr.heap.size + 1, 0, none⟩) = _; rw [HsA.out]) (sgA d'.z d'.root d'.i d'.sig d'.p) rfl _ 41 (by rw [Hs36'.out]; rfl) Hsz'.out (sgA_one rfl) ?_)
          | ((with_reducible show wpList _ _ _ ({ dst := _, op := Op.load 41 _, type := _, pos := _, after := _, guard := _ } :: _) _ _); refine wpList_load_blk rfl 41 _ rfl wr.heap.size rfl 41 (sgA d.z d.root d.i d.sig d.p) _ HX1.out Try.underlying41 rfl Hsz.out ?_)
          | ((with_reducible show wpList _ _ _ ({ dst := _, op := Op.load 41 _, type := _, pos := _, after := _, guard := _ } :: _) _ _); refine wpList_load_newA rfl 41 _ rfl (by show Value.pointer (some ⟨wr.heap.size + 1, 0, none⟩) = _; rw [HsA.out]) (sgA d'.z d'.root d'.i d'.sig d'.p) 41 _ Try.underlying41 rfl Hsz'.out ?_)
          | (go_at_call 66; refine (CS.out).mono ?_; rintro e w3 ⟨rfl, hb3⟩))
        go_ret
        exact ⟨by rw [Hf.out]; rfl, hbw.trans (HbB.out.trans (hb3.mono HbB.out.size) |>.mono hbw.size)⟩
    · obtain rfl : k = ds.length := by omega
      have Hfin := hid (show R = true by
        rw [← HR.out]
        exact decide_eq_true (keys_take_eq (fun i h h1 h2 => Htk.out i h h1 h2) HL.out))
      go_wp2
      go_ret
      exact ⟨by rw [Hfin.out]; rfl, hbw⟩
end Go.Proofs.Ytjpnlnbpaecciaa
/- messages.Same -/
namespace Go.Proofs.Ytjpnlnbpaecciaa
open Go.RowKit Go.Spec
instance decSgK : DecidableEq SgK := inferInstance
instance decSgKs : DecidableEq (List SgK) := @instDecidableEqList SgK decSgK
abbrev RpRest := List SgK × List (List UInt8) × List (List UInt8)
instance decRpRest : DecidableEq RpRest := inferInstance
abbrev RpKey := (Int × Int × Int) × RpRest
instance decRpKey : DecidableEq RpKey := @instDecidableEqProd (Int × Int × Int) RpRest inferInstance decRpRest
/-- what a reply says -/
def RpK.key (x : RpK) : RpKey := ((x.id, x.kind, x.code), (x.heads, x.entries, x.proof))
/-- do two replies say the same? -/
def sameRp (x y : RpK) : Bool := decide (x.key = y.key)
theorem sameRp_iff {x y : RpK} : sameRp x y = true ↔ x.key = y.key := by simp [sameRp]
set_option maxHeartbeats 8000000 in
theorem msame_any (x y : RpK) (vh ve vp uh ue up : Value) (ds es : List Sg) (w : World) (hx : RpIn w x vh ve vp ds) (hy : RpIn w y uh ue up es) (sx : RpSmall x) (sy : RpSmall y) :
    Calls Try.prog 28 #[.agg (rpC x vh ve vp), .agg (rpC y uh ue up)] w fun e w' => e = .returned (.bool (sameRp x y)) ∧ Below w.heap.size w w' := by
  obtain ⟨R, hR⟩ : ∃ R, sameRp x y = R := ⟨_, rfl⟩
  have HR := hid hR
  rw [hR]
  clear hR
  have HX := hid hx; have HY := hid hy; have SX := hid sx; have SY := hid sy
  have hdl : ds.length ≤ 1000 := by have := sx.heads; rw [← hx.keys, List.length_map] at this; exact this
  have hel : es.length ≤ 1000 := by have := sy.heads; rw [← hy.keys, List.length_map] at this; exact this
  clear hx hy sx sy
  go_enter Try.func28, Try.ntmps28
  go_upto_region 2 with fail
  refine wp_world (fun W => Blk W w.heap.size (rpC x vh ve vp) 51 ∧ Blk W (w.heap.size + 1) (rpC y uh ue up) 51 ∧ Below w.heap.size w W) ⟨(Blk.new _ _ _).alloc _, Blk.new' _ _ _ (by simp), ((Below.refl _ w).alloc (Nat.le_refl _) _).alloc (by simp) _⟩ ?_
  rintro w2 ⟨hB1, hB2, hb2⟩
  have HX2 := hid (HX.out.below hb2); have HY2 := hid (HY.out.below hb2)
  have Hb2 := hid hb2
  have h1 := hB1.lt; have h2 := hB2.lt
  have a0 : w2.cell? ⟨w.heap.size, 0, none⟩ = some (.int .i64 x.id) := Blk.cell hB1 0
  have a1 : w2.cell? ⟨w.heap.size, 1, none⟩ = some (.int .i64 x.kind) := Blk.cell hB1 1
  have a2 : w2.cell? ⟨w.heap.size, 2, none⟩ = some (.int .i64 x.code) := Blk.cell hB1 2
  have a3 : w2.cell? ⟨w.heap.size, 3, none⟩ = some vh := Blk.cell hB1 3
  have a4 : w2.cell? ⟨w.heap.size, 4, none⟩ = some ve := Blk.cell hB1 4
  have a5 : w2.cell? ⟨w.heap.size, 5, none⟩ = some vp := Blk.cell hB1 5
  have b0 : w2.cell? ⟨w.heap.size + 1, 0, none⟩ = some (.int .i64 y.id) := Blk.cell hB2 0
  have b1 : w2.cell? ⟨w.heap.size + 1, 1, none⟩ = some (.int .i64 y.kind) := Blk.cell hB2 1
  have b2 : w2.cell? ⟨w.heap.size + 1, 2, none⟩ = some (.int .i64 y.code) := Blk.cell hB2 2
  have b3 : w2.cell? ⟨w.heap.size + 1, 3, none⟩ = some uh := Blk.cell hB2 3
  have b4 : w2.cell? ⟨w.heap.size + 1, 4, none⟩ = some ue := Blk.cell hB2 4
  have b5 : w2.cell? ⟨w.heap.size + 1, 5, none⟩ = some up := Blk.cell hB2 5
  clear hb2 hB1 hB2
  obtain ⟨idx, kx, cx, hsx, ex, px⟩ := x
  obtain ⟨idy, ky, cy, hsy, ey, py⟩ := y
  simp only at a0 a1 a2 b0 b1 b2
  have Hno := hid (show ¬ (idx = idy ∧ kx = ky ∧ cx = cy ∧ hsx = hsy ∧ ex = ey ∧ px = py) → R = false from fun h => by
    rw [← HR.out]; exact decide_eq_false (fun h2 => h (by simpa [RpK.key, and_assoc] using h2)))
  have Hyes := hid (show idx = idy → kx = ky → cx = cy → hsx = hsy → ex = ey → R = decide (px = py) from fun h1 h2 h3 h4 h5 => by
    rw [← HR.out]; subst h1 h2 h3 h4 h5; simp [sameRp, RpK.key])
  by_cases c : idx = idy
  rotate_left
  · have d : (idx == idy) = false := by simpa using c
    have Hf := hid (Hno.out (fun h => c h.1))
    clear c
    go_wp2
    go_ret
    exact ⟨by rw [Hf.out]; rfl, Hb2.out⟩
  have q0 : (idx == idy) = true := by simpa using c
  have C0 := hid c; clear c
  by_cases c : kx = ky
  rotate_left
  · have d : (kx == ky) = false := by simpa using c
    have Hf := hid (Hno.out (fun h => c h.2.1))
    clear c
    go_wp2
    go_ret
    exact ⟨by rw [Hf.out]; rfl, Hb2.out⟩
  have q1 : (kx == ky) = true := by simpa using c
  have C1 := hid c; clear c
  by_cases c : cx = cy
  rotate_left
  · have d : (cx == cy) = false := by simpa using c
    have Hf := hid (Hno.out (fun h => c h.2.2.1))
    clear c
    go_wp2
    go_ret
    exact ⟨by rw [Hf.out]; rfl, Hb2.out⟩
  have q2 : (cx == cy) = true := by simpa using c
  have C2 := hid c; clear c
  have F1 := hid (eqFunc_any _ _ ds es w2 HX2.out.heads HY2.out.heads (by omega) (by omega))
  by_cases c : hsx = hsy
  rotate_left
  · have Hf := hid (Hno.out (fun h => c h.2.2.2.1))
    have e : decide (ds.map Sg.k = es.map Sg.k) = false := by rw [HX.out.keys, HY.out.keys]; exact decide_eq_false c
    rw [e] at F1
    clear c e
    go_wp2_with (go_at_call 68; refine (F1.out).mono ?_; rintro e w3 ⟨rfl, hb3⟩)
    go_ret
    exact ⟨by rw [Hf.out]; rfl, bth Hb2.out hb3⟩
  have e : decide (ds.map Sg.k = es.map Sg.k) = true := by rw [HX.out.keys, HY.out.keys]; exact decide_eq_true c
  rw [e] at F1
  have C3 := hid c; clear c e
  have F2 := hid (fun (w3 : World) (hb : Below w2.heap.size w2 w3) => eqStrs_any _ _ ex ey w3 (HX2.out.entries.below hb) (HY2.out.entries.below hb) (by have := SX.out.entries; simp only at this; omega) (by have := SY.out.entries; simp only at this; omega))
  by_cases c : ex = ey
  rotate_left
  · have Hf := hid (Hno.out (fun h => c h.2.2.2.2.1))
    rw [decide_eq_false c] at F2
    clear c
    go_wp2_with (first
      | (go_at_call 68; refine (F1.out).mono ?_; rintro e w3 ⟨rfl, hb3⟩; have a4' := (hb3.cell (p := ⟨w.heap.size, 4, none⟩) h1).trans a4; have b4' := (hb3.cell (p := ⟨w.heap.size + 1, 4, none⟩) h2).trans b4)
      | (go_at_call 69; refine (F2.out _ hb3).mono ?_; rintro e w4 ⟨rfl, hb4⟩))
    go_ret
    exact ⟨by rw [Hf.out]; rfl, bth Hb2.out (bth hb3 hb4)⟩
  rw [decide_eq_true c] at F2
  have C4 := hid c; clear c
  have F3 := hid (fun (w3 : World) (hb : Below w2.heap.size w2 w3) => eqHashes_any _ _ px py w3 (HX2.out.proof.below hb (Nat.le_refl _)) (HY2.out.proof.below hb (Nat.le_refl _)) (by have := SX.out.proof; simp only at this; omega) (by have := SY.out.proof; simp only at this; omega))
  have Hfin := hid (Hyes.out C0.out C1.out C2.out C3.out C4.out)
  go_wp2_with (first
    | (go_at_call 68; refine (F1.out).mono ?_; rintro e w3 ⟨rfl, hb3⟩; have a4' := (hb3.cell (p := ⟨w.heap.size, 4, none⟩) h1).trans a4; have b4' := (hb3.cell (p := ⟨w.heap.size + 1, 4, none⟩) h2).trans b4)
    | (go_at_call 69; refine (F2.out _ hb3).mono ?_; rintro e w4 ⟨rfl, hb4⟩; have a5' := ((bth hb3 hb4).cell (p := ⟨w.heap.size, 5, none⟩) h1).trans a5; have b5' := ((bth hb3 hb4).cell (p := ⟨w.heap.size + 1, 5, none⟩) h2).trans b5)
    | (go_at_call 67; refine (F3.out _ (bth hb3 hb4)).mono ?_; rintro e w5 ⟨rfl, hb5⟩))
  go_ret
  exact ⟨by rw [Hfin.out]; rfl, bth Hb2.out (bth (bth hb3 hb4) hb5)⟩
end Go.Proofs.Ytjpnlnbpaecciaa
