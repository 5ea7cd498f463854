/- speculumlaw03.Same (for seats without the rest of codec) -/
import Derived.Test.YtbpjlancjdbehaaDoorQShaLaid

set_option maxRecDepth 100000
namespace Go.Proofs.YtbpjlancjdbehaaDoor
open Go.RowKit Go.Spec
theorem Tryd.guardHash3 : Tryd.prog.eqGuardType Tryd.prog.depth 29 = false := by kernel_rfl
set_option maxHeartbeats 1000000 in
theorem same_any (va vb : Value) (hs1 hs2 : List (List UInt8)) (w : World) (ha : SlAt w 32 va (hcs hs1)) (hb : SlAt w 32 vb (hcs hs2)) (hn : hs1.length ≤ 9223372036854775807) (hn2 : hs2.length ≤ 9223372036854775807) :
    Calls Tryd.prog 20 #[va, vb] w fun e w' => e = .returned (.bool (hs1 == hs2)) ∧ Below w.heap.size w w' := by
  obtain ⟨a, cap, rfl, hcap⟩ := ha.formH
  obtain ⟨b, cap2, rfl, hcap2⟩ := hb.formH
  have Ha := hid ha; have Hb := hid hb
  clear ha hb
  by_cases hl : hs1.length = hs2.length
  · have hd : (((hs1.length : Nat) : Int) != (hs2.length : Int)) = false := by simp [hl]
    rw [hl] at hd hcap hn ⊢
    have HL := hid hl
    clear hl
    go_enter Tryd.func20, Tryd.ntmps20
    go_wp2
    go_loopw [5] (fun i wr => ∃ k : Nat, k ≤ hs2.length ∧ i = .int .i64 k ∧ hs1.take k = hs2.take k ∧ Below w.heap.size w wr) (fun i _ => hs2.length - (intOf i).toNat)
    case atStart => exact ⟨0, by omega, rfl, by simp, Below.refl _ _⟩
    case round =>
      obtain ⟨k, hk, rfl, htk, hbw⟩ := hrel
      have Htk := hid htk
      clear htk
      by_cases hlt : k < hs2.length
      · have hlt2 : k < hs1.length := by rw [HL.out]; exact hlt
        have Ha2 := Ha.out.below hbw (Nat.le_refl _)
        have Hb2 := Hb.out.below hbw (Nat.le_refl _)
        obtain ⟨b1, o1, rfl, hbl1, hcl1, hcell1⟩ := Ha2.at (i := k) (cs := hs1[k].map bcell) (by simp [hcs, hlt2])
        obtain ⟨b2, o2, rfl, hbl2, hcl2, hcell2⟩ := Hb2.at (i := k) (cs := hs2[k].map bcell) (by simp [hcs, hlt])
        have hta := hid (show hs1.take (k + 1) = hs1.take k ++ [hs1[k]] from List.take_succ_eq_append_getElem hlt2)
        have htb := hid (show hs2.take (k + 1) = hs2.take k ++ [hs2[k]] from List.take_succ_eq_append_getElem hlt)
        have hne := hid (show hs1[k] ≠ hs2[k] → hs1 ≠ hs2 from fun h h2 => h (by subst h2; rfl))
        generalize hs1[k] = x at *
        generalize hs2[k] = y at *
        have hx : x.length = 32 := by simpa using hcl1
        have hy : y.length = 32 := by simpa using hcl2
        have Hsx := hid (show (Tryd.prog.info? 29).map (·.size) = some x.length by rw [hx]; exact Tryd.sizeHash)
        have Hsy := hid (show (Tryd.prog.info? 29).map (·.size) = some y.length by rw [hy]; exact Tryd.sizeHash)
        have hs5 := Tryd.sizeU8
        have hge := Tryd.guardHash3
        have Hc1 := hid hcell1; have Hc2 := hid hcell2
        clear hcell1 hcell2 hcl1 hcl2 Ha2 Hb2
        by_cases hxy : x = y
        · have hq : (x == y) = true := by simpa using hxy
          have Hxy := hid hxy
          clear hxy
          go_wp2_with fail
          refine wp_region_later (by kernel_rfl) (by kernel_rfl) ?_

          repeat (first
            | (refine wpQuiet_load_hc rfl 29 _ rfl ⟨b1, o1 + k * 32, none⟩ rfl x _ (by rintro _ ⟨q, rfl⟩; exact lat_cells q hbl1 Hc1.out) Tryd.underlying29 rfl Hsx.out ?_; simp only [Act.put, List.setIfInBounds_toArray, List.set_cons_succ, List.set_cons_zero])
            | (refine wpQuiet_load_hc rfl 29 _ rfl ⟨b2, o2 + k * 32, none⟩ rfl y _ (by rintro _ ⟨q, rfl⟩; exact lat_cells q hbl2 Hc2.out) Tryd.underlying29 rfl Hsy.out ?_; simp only [Act.put, List.setIfInBounds_toArray, List.set_cons_succ, List.set_cons_zero])
            | go_big_quiet_step (fail))
          refine wpQuiet_nil ?_
          rintro _ ⟨q, rfl⟩
          have hb3 := lat_below q
          generalize lat q = w2 at *
          go_wp2
          go_roundw
          case rel => exact ⟨k + 1, by omega, by go_num, by rw [hta.out, htb.out, Htk.out, Hxy.out], hbw.trans (hb3.mono hbw.size)⟩
          case measure => simp [intOf]; omega
        · have hq : (x == y) = false := by simpa using hxy
          have Hfin := hid (show (hs1 == hs2) = false by simpa using hne.out hxy)
          clear hxy
          go_wp2_with fail
          refine wp_region_later (by kernel_rfl) (by kernel_rfl) ?_

          repeat (first
            | (refine wpQuiet_load_hc rfl 29 _ rfl ⟨b1, o1 + k * 32, none⟩ rfl x _ (by rintro _ ⟨q, rfl⟩; exact lat_cells q hbl1 Hc1.out) Tryd.underlying29 rfl Hsx.out ?_; simp only [Act.put, List.setIfInBounds_toArray, List.set_cons_succ, List.set_cons_zero])
            | (refine wpQuiet_load_hc rfl 29 _ rfl ⟨b2, o2 + k * 32, none⟩ rfl y _ (by rintro _ ⟨q, rfl⟩; exact lat_cells q hbl2 Hc2.out) Tryd.underlying29 rfl Hsy.out ?_; simp only [Act.put, List.setIfInBounds_toArray, List.set_cons_succ, List.set_cons_zero])
            | go_big_quiet_step (fail))
          refine wpQuiet_nil ?_
          rintro _ ⟨q, rfl⟩
          have hb3 := lat_below q
          generalize lat q = w2 at *
          go_wp2
          go_ret
          exact ⟨by rw [Hfin.out]; rfl, hbw.trans (hb3.mono hbw.size)⟩
      · have hke : k = hs2.length := by omega
        subst hke
        have Hfin := hid (show (hs1 == hs2) = true by
          have := Htk.out
          rw [List.take_length, ← HL.out, List.take_length] at this
          simpa using this)
        go_wp2
        go_ret
        exact ⟨by rw [Hfin.out]; rfl, hbw⟩
  · have hd : (((hs1.length : Nat) : Int) != (hs2.length : Int)) = true := by simp; omega
    have Hfin := hid (show (hs1 == hs2) = false by simpa using fun h : hs1 = hs2 => hl (by rw [h]))
    clear hl
    go_enter Tryd.func20, Tryd.ntmps20
    go_wp2
    go_ret
    exact ⟨by rw [Hfin.out]; rfl, Below.refl _ _⟩
end Go.Proofs.YtbpjlancjdbehaaDoor
