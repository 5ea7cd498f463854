/- are two rows of signed heads, of heads the same? -/
import Derived.Test.YtjpnlnbpaecciaaQSame10

set_option maxRecDepth 100000
namespace Go.Proofs.Ytjpnlnbpaecciaa
open Go.RowKit Go.Spec
set_option maxHeartbeats 4000000 in
theorem same30_any (va vb : Value) (ds1 ds2 : List Sg) (w : World) (ha : SgsAt w va ds1) (hb : SgsAt w vb ds2) (hn : ds1.length ≤ 9223372036854775807) (hn2 : ds2.length ≤ 9223372036854775807) :
    Calls Try.prog 18 #[va, vb] w fun e w' => e = .returned (.bool (decide (ds1.map Sg.k = ds2.map Sg.k))) ∧ Below w.heap.size w w' := by
  obtain ⟨a, cap, rfl, hcap⟩ := ha.form
  obtain ⟨b, cap2, rfl, hcap2⟩ := hb.form
  have Ha := hid ha; have Hb := hid hb
  clear ha hb
  by_cases hl : ds1.length = ds2.length
  · have hd : (((ds1.length : Nat) : Int) != (ds2.length : Int)) = false := by simp [hl]
    rw [hl] at hd hcap hn ⊢
    have HL := hid hl
    clear hl
    go_enter Try.func18, Try.ntmps18
    go_upto_region 4 with fail
    go_loopw [5] (fun i wr => ∃ k : Nat, k ≤ ds2.length ∧ i = .int .i64 k ∧ (ds1.take k).map Sg.k = (ds2.take k).map Sg.k ∧ Below w.heap.size w wr) (fun i _ => ds2.length - (intOf i).toNat)
    case atStart => exact ⟨0, by omega, rfl, by simp, Below.refl _ _⟩
    case round =>
      obtain ⟨k, hk, rfl, htk, hbw⟩ := hrel
      have Htk := hid htk
      clear htk
      by_cases hlt : k < ds2.length
      · have hlt2 : k < ds1.length := by rw [HL.out]; exact hlt
        have hk64 : (k : Int) < (ds2.length : Int) := by omega
        have Ha2 := Ha.out.below hbw
        have Hb2 := Hb.out.below hbw
        have hx1 := Ha2.ok _ (List.getElem_mem hlt2)
        have hy1 := Hb2.ok _ (List.getElem_mem hlt)
        obtain ⟨b1, o1, rfl, hbl1, hcell1⟩ := Ha2.get hlt2
        obtain ⟨b2, o2, rfl, hbl2, hcell2⟩ := Hb2.get hlt
        have hta := hid (show ds1.take (k + 1) = ds1.take k ++ [ds1[k]] from List.take_succ_eq_append_getElem hlt2)
        have htb := hid (show ds2.take (k + 1) = ds2.take k ++ [ds2[k]] from List.take_succ_eq_append_getElem hlt)
        have hne := hid (show ds1[k].k ≠ ds2[k].k → ds1.map Sg.k ≠ ds2.map Sg.k from fun h h2 => h (by
          have h3 := congrArg (fun l => l[k]?) h2
          simpa [hlt, hlt2] using h3))
        generalize ds1[k] = x at *
        generalize ds2[k] = y at *
        have Hsx := hid (show (Try.prog.info? 41).map (·.size) = some (sgA x.z x.root x.i x.sig x.p).size by rw [sgA_size hx1.r32]; exact Try.sizeSigned)
        have Hsy := hid (show (Try.prog.info? 41).map (·.size) = some (sgA y.z y.root y.i y.sig y.p).size by rw [sgA_size hy1.r32]; exact Try.sizeSigned)
        have Hc1 := hid hcell1; have Hc2 := hid hcell2
        have C := hid (fun q : Later wr => rsame10_any x y (lat q) (hx1.below (lat_below q)) (hy1.below (lat_below q)))
        clear hcell1 hcell2 Ha2 Hb2 hx1 hy1
        by_cases hxy : x.k = y.k
        · rw [decide_eq_true hxy] at C
          have Hxy := hid hxy
          clear hxy
          go_upto_region 6 with fail
          refine wp_region_later (by kernel_rfl) (by kernel_rfl) ?_
          repeat (first
            | (refine wpQuiet_load_aggG rfl 41 _ rfl ⟨b1, o1 + k * 36, none⟩ rfl (sgA x.z x.root x.i x.sig x.p) _ (by rintro _ ⟨q, rfl⟩; exact lat_cells q hbl1 Hc1.out) Try.underlying41 rfl Hsx.out ?_; simp only [Act.put, List.setIfInBounds_toArray, List.set_cons_succ, List.set_cons_zero])
            | (refine wpQuiet_load_aggG rfl 41 _ rfl ⟨b2, o2 + k * 36, none⟩ rfl (sgA y.z y.root y.i y.sig y.p) _ (by rintro _ ⟨q, rfl⟩; exact lat_cells q hbl2 Hc2.out) Try.underlying41 rfl Hsy.out ?_; simp only [Act.put, List.setIfInBounds_toArray, List.set_cons_succ, List.set_cons_zero])
            | go_big_quiet_step ((first | (go_at_call 54; with_reducible exact calls_later (C.out _)))))
          refine wpQuiet_nil ?_
          rintro _ ⟨q3, rfl⟩
          have hb3 := lat_below q3
          generalize lat q3 = w3 at *
          go_wp2
          go_roundw
          case rel => exact ⟨k + 1, by omega, by go_num, by rw [hta.out, htb.out, List.map_append, List.map_append, Htk.out]; simp [Hxy.out], bth hbw hb3⟩
          case measure => simp [intOf]; omega
        · rw [decide_eq_false hxy] at C
          have Hf := hid (show decide (ds1.map Sg.k = ds2.map Sg.k) = false from decide_eq_false (hne.out hxy))
          clear hxy
          go_upto_region 6 with fail
          refine wp_region_later (by kernel_rfl) (by kernel_rfl) ?_
          repeat (first
            | (refine wpQuiet_load_aggG rfl 41 _ rfl ⟨b1, o1 + k * 36, none⟩ rfl (sgA x.z x.root x.i x.sig x.p) _ (by rintro _ ⟨q, rfl⟩; exact lat_cells q hbl1 Hc1.out) Try.underlying41 rfl Hsx.out ?_; simp only [Act.put, List.setIfInBounds_toArray, List.set_cons_succ, List.set_cons_zero])
            | (refine wpQuiet_load_aggG rfl 41 _ rfl ⟨b2, o2 + k * 36, none⟩ rfl (sgA y.z y.root y.i y.sig y.p) _ (by rintro _ ⟨q, rfl⟩; exact lat_cells q hbl2 Hc2.out) Try.underlying41 rfl Hsy.out ?_; simp only [Act.put, List.setIfInBounds_toArray, List.set_cons_succ, List.set_cons_zero])
            | go_big_quiet_step ((first | (go_at_call 54; with_reducible exact calls_later (C.out _)))))
          refine wpQuiet_nil ?_
          rintro _ ⟨q3, rfl⟩
          have hb3 := lat_below q3
          generalize lat q3 = w3 at *
          go_wp2
          go_ret
          exact ⟨by rw [Hf.out]; rfl, bth hbw hb3⟩
      · have hke : k = ds2.length := by omega
        subst hke
        have Hf := hid (show decide (ds1.map Sg.k = ds2.map Sg.k) = true from decide_eq_true (by
          have := Htk.out
          rw [List.take_length, ← HL.out, List.take_length] at this
          exact this))
        go_wp2
        go_ret
        exact ⟨by rw [Hf.out]; rfl, hbw⟩
  · have hd : (((ds1.length : Nat) : Int) != (ds2.length : Int)) = true := by simp; omega
    have Hf := hid (show decide (ds1.map Sg.k = ds2.map Sg.k) = false from decide_eq_false (fun h => hl (by simpa using congrArg List.length h)))
    clear hl
    go_enter Try.func18, Try.ntmps18
    go_wp2
    go_ret
    exact ⟨by rw [Hf.out]; rfl, Below.refl _ _⟩
set_option maxHeartbeats 4000000 in
theorem heads30_any (va vb : Value) (ds1 ds2 : List Hd) (w : World) (ha : HdsAt w va ds1) (hb : HdsAt w vb ds2) (hn : ds1.length ≤ 9223372036854775807) (hn2 : ds2.length ≤ 9223372036854775807) :
    Calls Try.prog 35 #[va, vb] w fun e w' => e = .returned (.bool (decide (ds1.map Hd.k = ds2.map Hd.k))) ∧ Below w.heap.size w w' := by
  obtain ⟨a, cap, rfl, hcap⟩ := ha.form
  obtain ⟨b, cap2, rfl, hcap2⟩ := hb.form
  have Ha := hid ha; have Hb := hid hb
  clear ha hb
  have hgd := Try.guardHead
  by_cases hl : ds1.length = ds2.length
  · have hd : (((ds1.length : Nat) : Int) != (ds2.length : Int)) = false := by simp [hl]
    rw [hl] at hd hcap hn ⊢
    have HL := hid hl
    clear hl
    go_enter Try.func35, Try.ntmps35
    go_upto_region 4 with fail
    go_loopw [5] (fun i wr => ∃ k : Nat, k ≤ ds2.length ∧ i = .int .i64 k ∧ (ds1.take k).map Hd.k = (ds2.take k).map Hd.k ∧ Below w.heap.size w wr) (fun i _ => ds2.length - (intOf i).toNat)
    case atStart => exact ⟨0, by omega, rfl, by simp, Below.refl _ _⟩
    case round =>
      obtain ⟨k, hk, rfl, htk, hbw⟩ := hrel
      have Htk := hid htk
      clear htk
      by_cases hlt : k < ds2.length
      · have hlt2 : k < ds1.length := by rw [HL.out]; exact hlt
        have hk64 : (k : Int) < (ds2.length : Int) := by omega
        have Ha2 := Ha.out.below hbw
        have Hb2 := Hb.out.below hbw
        have hx1 := Ha2.ok _ (List.getElem_mem hlt2)
        have hy1 := Hb2.ok _ (List.getElem_mem hlt)
        obtain ⟨b1, o1, rfl, hbl1, hcell1⟩ := Ha2.get hlt2
        obtain ⟨b2, o2, rfl, hbl2, hcell2⟩ := Hb2.get hlt
        have hta := hid (show ds1.take (k + 1) = ds1.take k ++ [ds1[k]] from List.take_succ_eq_append_getElem hlt2)
        have htb := hid (show ds2.take (k + 1) = ds2.take k ++ [ds2[k]] from List.take_succ_eq_append_getElem hlt)
        have hne := hid (show ds1[k].k ≠ ds2[k].k → ds1.map Hd.k ≠ ds2.map Hd.k from fun h h2 => h (by
          have h3 := congrArg (fun l => l[k]?) h2
          simpa [hlt, hlt2] using h3))
        generalize ds1[k] = x at *
        generalize ds2[k] = y at *
        obtain ⟨z, r⟩ := x
        obtain ⟨z', r'⟩ := y
        simp only at hx1 hy1 hcell1 hcell2
        have Hsx := hid (show (Try.prog.info? 36).map (·.size) = some (hdA z r).size by rw [hdA_size hx1]; exact Try.sizeHead)
        have Hsy := hid (show (Try.prog.info? 36).map (·.size) = some (hdA z' r').size by rw [hdA_size hy1]; exact Try.sizeHead)
        have Hc1 := hid hcell1; have Hc2 := hid hcell2
        have hE := fun w => equalHead z z' r r' hx1 hy1 w
        clear hcell1 hcell2 Ha2 Hb2 hx1 hy1
        by_cases hxy : Hd.k ⟨z, r⟩ = Hd.k ⟨z', r'⟩
        · obtain ⟨rfl, rfl⟩ : z = z' ∧ r = r' := by simpa [Hd.k] using hxy
          rw [show (decide (z = z) && r == r) = true by simp] at hE
          clear hxy
          go_upto_region 6 with fail
          refine wp_region_later (by kernel_rfl) (by kernel_rfl) ?_
          repeat (first
            | (refine wpQuiet_load_aggG rfl 36 _ rfl ⟨b1, o1 + k * 33, none⟩ rfl (hdA z r) _ (by rintro _ ⟨q, rfl⟩; exact lat_cells q hbl1 Hc1.out) Try.underlying36 rfl Hsx.out ?_; simp only [Act.put, List.setIfInBounds_toArray, List.set_cons_succ, List.set_cons_zero])
            | (refine wpQuiet_load_aggG rfl 36 _ rfl ⟨b2, o2 + k * 33, none⟩ rfl (hdA z r) _ (by rintro _ ⟨q, rfl⟩; exact lat_cells q hbl2 Hc2.out) Try.underlying36 rfl Hsx.out ?_; simp only [Act.put, List.setIfInBounds_toArray, List.set_cons_succ, List.set_cons_zero])
            | go_big_quiet_step (fail))
          refine wpQuiet_nil ?_
          rintro _ ⟨q3, rfl⟩
          have hb3 := lat_below q3
          generalize lat q3 = w3 at *
          go_wp2
          go_roundw
          case rel => exact ⟨k + 1, by omega, by go_num, by rw [hta.out, htb.out, List.map_append, List.map_append, Htk.out], bth hbw hb3⟩
          case measure => simp [intOf]; omega
        · rw [show (decide (z = z') && r == r') = false by rw [Bool.eq_false_iff]; simp; exact fun h1 h2 => hxy (by simp [Hd.k, h1, h2])] at hE
          have Hf := hid (show decide (ds1.map Hd.k = ds2.map Hd.k) = false from decide_eq_false (hne.out hxy))
          clear hxy
          go_upto_region 6 with fail
          refine wp_region_later (by kernel_rfl) (by kernel_rfl) ?_
          repeat (first
            | (refine wpQuiet_load_aggG rfl 36 _ rfl ⟨b1, o1 + k * 33, none⟩ rfl (hdA z r) _ (by rintro _ ⟨q, rfl⟩; exact lat_cells q hbl1 Hc1.out) Try.underlying36 rfl Hsx.out ?_; simp only [Act.put, List.setIfInBounds_toArray, List.set_cons_succ, List.set_cons_zero])
            | (refine wpQuiet_load_aggG rfl 36 _ rfl ⟨b2, o2 + k * 33, none⟩ rfl (hdA z' r') _ (by rintro _ ⟨q, rfl⟩; exact lat_cells q hbl2 Hc2.out) Try.underlying36 rfl Hsy.out ?_; simp only [Act.put, List.setIfInBounds_toArray, List.set_cons_succ, List.set_cons_zero])
            | go_big_quiet_step (fail))
          refine wpQuiet_nil ?_
          rintro _ ⟨q3, rfl⟩
          have hb3 := lat_below q3
          generalize lat q3 = w3 at *
          go_wp2
          go_ret
          exact ⟨by rw [Hf.out]; rfl, bth hbw hb3⟩
      · have hke : k = ds2.length := by omega
        subst hke
        have Hf := hid (show decide (ds1.map Hd.k = ds2.map Hd.k) = true from decide_eq_true (by
          have := Htk.out
          rw [List.take_length, ← HL.out, List.take_length] at this
          exact this))
        go_wp2
        go_ret
        exact ⟨by rw [Hf.out]; rfl, hbw⟩
  · have hd : (((ds1.length : Nat) : Int) != (ds2.length : Int)) = true := by simp; omega
    have Hf := hid (show decide (ds1.map Hd.k = ds2.map Hd.k) = false from decide_eq_false (fun h => hl (by simpa using congrArg List.length h)))
    clear hl
    go_enter Try.func35, Try.ntmps35
    go_wp2
    go_ret
    exact ⟨by rw [Hf.out]; rfl, Below.refl _ _⟩
end Go.Proofs.Ytjpnlnbpaecciaa
