/- slices.Equal of hashes and of strings; slices.EqualFunc of signed heads -/
import Derived.Test.YtjpnlnbpaecciaaQAnyOp
import Derived.Test.YtjpnlnbpaecciaaQSame10
import Derived.Test.YtjpnlnbpaecciaaQSg
import Derived.Test.YtjpnlnbpaecciaaQStrs

set_option maxRecDepth 100000
namespace Go.Proofs.Ytjpnlnbpaecciaa
open Go.RowKit Go.Spec
set_option maxHeartbeats 2000000 in
theorem eqHashes_any (va vb : Value) (p q : List (List UInt8)) (w : World) (ha : SlAt w 32 va (hcs p)) (hb : SlAt w 32 vb (hcs q)) (hn : p.length ≤ 1000000000) (hn2 : q.length ≤ 1000000000) :
    Calls Try.prog 67 #[va, vb] w fun e w' => e = .returned (.bool (decide (p = q))) ∧ Below w.heap.size w w' := by
  obtain ⟨a, cap, rfl, hcap⟩ := ha.formH
  obtain ⟨b, cap2, rfl, hcap2⟩ := hb.formH
  have Ha := hid ha; have Hb := hid hb
  clear ha hb
  obtain ⟨R, hR⟩ : ∃ R, decide (p = q) = R := ⟨_, rfl⟩
  have HR := hid hR
  rw [hR]
  clear hR
  by_cases hl : p.length = q.length
  · have hd : (((p.length : Nat) : Int) != (q.length : Int)) = false := by simp [hl]
    rw [hl] at hd
    have HL := hid hl
    rw [hl] at Ha hcap hn ⊢
    clear hl
    go_enter Try.func67, Try.ntmps67
    go_wp2
    go_loopw [13] (fun i wr => ∃ k : Nat, k ≤ q.length ∧ i = .int .i64 k ∧ p.take k = q.take k ∧ Below w.heap.size w wr) (fun i _ => q.length - (intOf i).toNat)
    case atStart => exact ⟨0, by omega, rfl, by simp, Below.refl _ _⟩
    case round =>
      obtain ⟨k, hk, rfl, htk, hbw⟩ := hrel
      have Htk := hid htk
      clear htk
      by_cases hlt : k < q.length
      · have hlt2 : k < p.length := by rw [HL.out]; exact hlt
        obtain ⟨b1, o1, rfl, hbl1, hcl1, hcell1⟩ := (Ha.out.below hbw (Nat.le_refl _)).at (i := k) (cs := p[k].map bcell) (by simp [hcs, hlt2])
        obtain ⟨b2, o2, rfl, hbl2, hcl2, hcell2⟩ := (Hb.out.below hbw (Nat.le_refl _)).at (i := k) (cs := q[k].map bcell) (by simp [hcs, hlt])
        have hta := hid (show p.take (k + 1) = p.take k ++ [p[k]] from List.take_succ_eq_append_getElem hlt2)
        have htb := hid (show q.take (k + 1) = q.take k ++ [q[k]] from List.take_succ_eq_append_getElem hlt)
        have hne := hid (show p[k] ≠ q[k] → p ≠ q from fun h h2 => h (by subst h2; rfl))
        generalize p[k] = x at *
        generalize q[k] = y at *
        have hx : x.length = 32 := by simpa using hcl1
        have hy : y.length = 32 := by simpa using hcl2
        have Hsx := hid (show (Try.prog.info? 34).map (·.size) = some x.length by rw [hx]; exact Try.sizeHash)
        have Hsy := hid (show (Try.prog.info? 34).map (·.size) = some y.length by rw [hy]; exact Try.sizeHash)
        have hs5 := Try.sizeU8
        have hge := Try.guardHash10
        have Hc1 := hid hcell1; have Hc2 := hid hcell2
        clear hcell1 hcell2 hcl1 hcl2
        have hkI : (k : Int) < (q.length : Int) := by omega
        by_cases hxy : x = y
        · have hq : (x == y) = true := by simpa using hxy
          have Hxy := hid hxy
          clear hxy
          go_wp2_with fail
          refine wp_region_later (by kernel_rfl) (by kernel_rfl) ?_
          repeat (first
            | (refine wpQuiet_load_hcG rfl 34 _ rfl ⟨b1, o1 + k * 32, none⟩ rfl x _ (by rintro _ ⟨q, rfl⟩; exact lat_cells q hbl1 Hc1.out) Try.underlying34 rfl Hsx.out ?_; simp only [Act.put, List.setIfInBounds_toArray, List.set_cons_succ, List.set_cons_zero])
            | (refine wpQuiet_load_hcG rfl 34 _ rfl ⟨b2, o2 + k * 32, none⟩ rfl y _ (by rintro _ ⟨q, rfl⟩; exact lat_cells q hbl2 Hc2.out) Try.underlying34 rfl Hsy.out ?_; simp only [Act.put, List.setIfInBounds_toArray, List.set_cons_succ, List.set_cons_zero])
            | go_big_quiet_step (fail))
          refine wpQuiet_nil ?_
          rintro _ ⟨q3, rfl⟩
          have hb3 := lat_below q3
          generalize lat q3 = w3 at *
          go_wp2
          go_roundw
          case rel => exact ⟨k + 1, by omega, by go_num, by rw [hta.out, htb.out, Htk.out, Hxy.out], bth hbw hb3⟩
          case measure => simp [intOf]; omega
        · have hq : (x == y) = false := by simpa using hxy
          have Hfin := hid (show R = false by rw [← HR.out]; exact decide_eq_false (hne.out hxy))
          clear hxy
          go_wp2_with fail
          refine wp_region_later (by kernel_rfl) (by kernel_rfl) ?_
          repeat (first
            | (refine wpQuiet_load_hcG rfl 34 _ rfl ⟨b1, o1 + k * 32, none⟩ rfl x _ (by rintro _ ⟨q, rfl⟩; exact lat_cells q hbl1 Hc1.out) Try.underlying34 rfl Hsx.out ?_; simp only [Act.put, List.setIfInBounds_toArray, List.set_cons_succ, List.set_cons_zero])
            | (refine wpQuiet_load_hcG rfl 34 _ rfl ⟨b2, o2 + k * 32, none⟩ rfl y _ (by rintro _ ⟨q, rfl⟩; exact lat_cells q hbl2 Hc2.out) Try.underlying34 rfl Hsy.out ?_; simp only [Act.put, List.setIfInBounds_toArray, List.set_cons_succ, List.set_cons_zero])
            | go_big_quiet_step (fail))
          refine wpQuiet_nil ?_
          rintro _ ⟨q3, rfl⟩
          have hb3 := lat_below q3
          generalize lat q3 = w3 at *
          go_wp2
          go_ret
          exact ⟨by rw [Hfin.out]; rfl, bth hbw hb3⟩
      · obtain rfl : k = q.length := by omega
        have Hfin := hid (show R = true by
          rw [← HR.out]
          have := Htk.out
          rw [List.take_length, ← HL.out, List.take_length] at this
          exact decide_eq_true this)
        go_wp2
        go_ret
        exact ⟨by rw [Hfin.out]; rfl, hbw⟩
  · have hd : (((p.length : Nat) : Int) != (q.length : Int)) = true := by simp; omega
    have Hfin := hid (show R = false by rw [← HR.out]; exact decide_eq_false fun h => hl (by rw [h]))
    clear hl
    go_enter Try.func67, Try.ntmps67
    go_wp2
    go_ret
    exact ⟨by rw [Hfin.out]; rfl, Below.refl _ _⟩
set_option maxHeartbeats 2000000 in
theorem eqStrs_any (va vb : Value) (p q : List (List UInt8)) (w : World) (ha : StrsAt w va p) (hb : StrsAt w vb q) (hn : p.length ≤ 1000000000) (hn2 : q.length ≤ 1000000000) :
    Calls Try.prog 69 #[va, vb] w fun e w' => e = .returned (.bool (decide (p = q))) ∧ Below w.heap.size w w' := by
  obtain ⟨a, cap, rfl, hcap⟩ := ha.form
  obtain ⟨b, cap2, rfl, hcap2⟩ := hb.form
  have Ha := hid ha; have Hb := hid hb
  clear ha hb
  obtain ⟨R, hR⟩ : ∃ R, decide (p = q) = R := ⟨_, rfl⟩
  have HR := hid hR
  rw [hR]
  clear hR
  by_cases hl : p.length = q.length
  · have hd : (((p.length : Nat) : Int) != (q.length : Int)) = false := by simp [hl]
    rw [hl] at hd
    have HL := hid hl
    rw [hl] at Ha hcap hn ⊢
    clear hl
    go_enter Try.func69, Try.ntmps69
    go_wp2
    go_loopw [13] (fun i wr => ∃ k : Nat, k ≤ q.length ∧ i = .int .i64 k ∧ p.take k = q.take k ∧ Below w.heap.size w wr) (fun i _ => q.length - (intOf i).toNat)
    case atStart => exact ⟨0, by omega, rfl, by simp, Below.refl _ _⟩
    case round =>
      obtain ⟨k, hk, rfl, htk, hbw⟩ := hrel
      have Htk := hid htk
      clear htk
      by_cases hlt : k < q.length
      · have hlt2 : k < p.length := by rw [HL.out]; exact hlt
        obtain ⟨b1, o1, rfl, hbl1, hcell1⟩ := (Ha.out.below hbw).at hlt2
        obtain ⟨b2, o2, rfl, hbl2, hcell2⟩ := (Hb.out.below hbw).at hlt
        have hta := hid (show p.take (k + 1) = p.take k ++ [p[k]] from List.take_succ_eq_append_getElem hlt2)
        have htb := hid (show q.take (k + 1) = q.take k ++ [q[k]] from List.take_succ_eq_append_getElem hlt)
        have hne := hid (show p[k] ≠ q[k] → p ≠ q from fun h h2 => h (by subst h2; rfl))
        generalize p[k] = x at *
        generalize q[k] = y at *
        have Hc1 := hid (fun q : Later wr => (lat_cell q b1 (o1 + k) hbl1).trans hcell1)
        have Hc2 := hid (fun q : Later wr => (lat_cell q b2 (o2 + k) hbl2).trans hcell2)
        clear hcell1 hcell2
        have hkI : (k : Int) < (q.length : Int) := by omega
        by_cases hxy : x = y
        · have hq : (x == y) = true := by simpa using hxy
          have Hxy := hid hxy
          clear hxy
          go_wp2_with fail
          refine wp_region_later (by kernel_rfl) (by kernel_rfl) ?_
          repeat (first
            | (refine wpQuiet_load_one rfl 9 _ rfl ⟨b1, o1 + k, none⟩ rfl (sv x) _ (by rintro _ ⟨q, rfl⟩; exact Hc1.out q) Try.underlying9 rfl ?_; simp only [Act.put, List.setIfInBounds_toArray, List.set_cons_succ, List.set_cons_zero])
            | (refine wpQuiet_load_one rfl 9 _ rfl ⟨b2, o2 + k, none⟩ rfl (sv y) _ (by rintro _ ⟨q, rfl⟩; exact Hc2.out q) Try.underlying9 rfl ?_; simp only [Act.put, List.setIfInBounds_toArray, List.set_cons_succ, List.set_cons_zero])
            | go_big_quiet_step (fail))
          refine wpQuiet_nil ?_
          rintro _ ⟨q3, rfl⟩
          have hb3 := lat_below q3
          generalize lat q3 = w3 at *
          go_wp2
          go_roundw
          case rel => exact ⟨k + 1, by omega, by go_num, by rw [hta.out, htb.out, Htk.out, Hxy.out], bth hbw hb3⟩
          case measure => simp [intOf]; omega
        · have hq : (x == y) = false := by simpa using hxy
          have Hfin := hid (show R = false by rw [← HR.out]; exact decide_eq_false (hne.out hxy))
          clear hxy
          go_wp2_with fail
          refine wp_region_later (by kernel_rfl) (by kernel_rfl) ?_
          repeat (first
            | (refine wpQuiet_load_one rfl 9 _ rfl ⟨b1, o1 + k, none⟩ rfl (sv x) _ (by rintro _ ⟨q, rfl⟩; exact Hc1.out q) Try.underlying9 rfl ?_; simp only [Act.put, List.setIfInBounds_toArray, List.set_cons_succ, List.set_cons_zero])
            | (refine wpQuiet_load_one rfl 9 _ rfl ⟨b2, o2 + k, none⟩ rfl (sv y) _ (by rintro _ ⟨q, rfl⟩; exact Hc2.out q) Try.underlying9 rfl ?_; simp only [Act.put, List.setIfInBounds_toArray, List.set_cons_succ, List.set_cons_zero])
            | go_big_quiet_step (fail))
          refine wpQuiet_nil ?_
          rintro _ ⟨q3, rfl⟩
          have hb3 := lat_below q3
          generalize lat q3 = w3 at *
          go_wp2
          go_ret
          exact ⟨by rw [Hfin.out]; rfl, bth hbw hb3⟩
      · obtain rfl : k = q.length := by omega
        have Hfin := hid (show R = true by
          rw [← HR.out]
          have := Htk.out
          rw [List.take_length, ← HL.out, List.take_length] at this
          exact decide_eq_true this)
        go_wp2
        go_ret
        exact ⟨by rw [Hfin.out]; rfl, hbw⟩
  · have hd : (((p.length : Nat) : Int) != (q.length : Int)) = true := by simp; omega
    have Hfin := hid (show R = false by rw [← HR.out]; exact decide_eq_false fun h => hl (by rw [h]))
    clear hl
    go_enter Try.func69, Try.ntmps69
    go_wp2
    go_ret
    exact ⟨by rw [Hfin.out]; rfl, Below.refl _ _⟩
end Go.Proofs.Ytjpnlnbpaecciaa
