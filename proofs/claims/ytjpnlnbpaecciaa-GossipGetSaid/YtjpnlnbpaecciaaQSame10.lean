/- are two signed heads the same? -/
import Derived.Test.YtjpnlnbpaecciaaQSg

set_option maxRecDepth 100000
namespace Go.Spec
open Go.RowKit
/-- what a signed head says -/
def Sg.k (d : Sg) : Int × List UInt8 × Int × List UInt8 × List (List UInt8) := (d.z, d.root, d.i, d.sig, d.path)
def Hd.k (h : Hd) : Int × List UInt8 := (h.z, h.r)
def Sg.hd (d : Sg) : Hd := ⟨d.z, d.root⟩
end Go.Spec
namespace Go.Proofs.Ytjpnlnbpaecciaa
open Go.RowKit Go.Spec
theorem Try.guardHead : Try.prog.eqGuardType Try.prog.depth 36 = false := by kernel_rfl
theorem Try.guardHash10 : Try.prog.eqGuardType Try.prog.depth 34 = false := by kernel_rfl
set_option maxHeartbeats 4000000 in
theorem rsame10_any (d d' : Sg) (w : World) (h : d.In w) (h' : d'.In w) :
    Calls Try.prog 54 #[.agg (sgA d.z d.root d.i d.sig d.p), .agg (sgA d'.z d'.root d'.i d'.sig d'.p)] w fun e w' => e = .returned (.bool (decide (d.k = d'.k))) ∧ Below w.heap.size w w' := by
  obtain ⟨z, root, i, sig, path, a, cap⟩ := d
  obtain ⟨z', root', i', sig', path', a', cap'⟩ := d'
  have hr := h.r32; have hr' := h'.r32
  have Hp := hid h.at_; have Hp' := hid h'.at_
  have hpl := h.pl; have hpl' := h'.pl
  simp only [Sg.p] at hr hr' hpl hpl' ⊢
  clear h h'
  have hgd := Try.guardHead
  have Hs36 := hid (show (Try.prog.info? 36).map (·.size) = some (hdA z root).size by rw [hdA_size hr]; exact Try.sizeHead)
  have Hs36' := hid (show (Try.prog.info? 36).map (·.size) = some (hdA z' root').size by rw [hdA_size hr']; exact Try.sizeHead)
  generalize hA : sgA z root i sig (.slice a path.length cap) = A at *
  generalize hA' : sgA z' root' i' sig' (.slice a' path'.length cap') = A' at *
  have HB0 := hid (show Blk ((w.alloc (.cells A 41)).alloc (.cells A' 41)) w.heap.size (sgA z root i sig (.slice a path.length cap)) 41 by rw [hA]; exact (Blk.new _ _ _).alloc _)
  have HB1 := hid (show Blk ((w.alloc (.cells A 41)).alloc (.cells A' 41)) (w.heap.size + 1) (sgA z' root' i' sig' (.slice a' path'.length cap')) 41 by rw [hA']; exact Blk.new' _ _ _ (by simp))
  have HW := hid (((Below.refl _ w).alloc (Nat.le_refl _) (.cells A 41)).alloc (by simp) (.cells A' 41))
  have hAs : A.size = 36 := by rw [← hA]; exact sgA_size hr
  have hAs' : A'.size = 36 := by rw [← hA']; exact sgA_size hr'
  clear hA hA'
  by_cases hh : z = z' ∧ root = root'
  · obtain ⟨rfl, rfl⟩ := hh
    have hE : ∀ w, (Op.equalIn 10000 36 (.agg (hdA z root)) (.agg (hdA z root))).run Try.prog w = .ok true w := fun w => by rw [equalHead z z root root hr hr w]; simp
    have cA0 : ((w.alloc (.cells A 41)).alloc (.cells A' 41)).cell? ⟨w.heap.size, 33, none⟩ = some (.int .i64 i) := HB0.out.sg33 hr
    have cA1 : ((w.alloc (.cells A 41)).alloc (.cells A' 41)).cell? ⟨w.heap.size + 1, 33, none⟩ = some (.int .i64 i') := HB1.out.sg33 hr
    have cA2 : ((w.alloc (.cells A 41)).alloc (.cells A' 41)).cell? ⟨w.heap.size, 34, none⟩ = some (sv sig) := HB0.out.sg34 hr
    have cA3 : ((w.alloc (.cells A 41)).alloc (.cells A' 41)).cell? ⟨w.heap.size + 1, 34, none⟩ = some (sv sig') := HB1.out.sg34 hr
    have cA4 : ((w.alloc (.cells A 41)).alloc (.cells A' 41)).cell? ⟨w.heap.size, 35, none⟩ = some (.slice a path.length cap) := HB0.out.sg35 hr
    have cA5 : ((w.alloc (.cells A 41)).alloc (.cells A' 41)).cell? ⟨w.heap.size + 1, 35, none⟩ = some (.slice a' path'.length cap') := HB1.out.sg35 hr
    go_enter Try.func54, Try.ntmps54
    go_upto_region 1 with fail
    have hww : ((w.alloc (.cells A 41)).alloc (.cells A' 41)).heap.size = w.heap.size + 2 := by simp
    generalize hG0 : ((w.alloc (.cells A 41)).alloc (.cells A' 41)) = w2 at *
    clear hG0
    by_cases hh : i = i'
    rotate_left
    · have dq : (i != i') = true := by simpa using hh
      have Hf := hid (show decide (Sg.k ⟨z, root, i, sig, path, a, cap⟩ = Sg.k ⟨z, root, i', sig', path', a', cap'⟩) = false from decide_eq_false (fun h => by simp only [Sg.k, Prod.mk.injEq] at h; exact hh h.2.2.1))
      clear hh
      go_wp2_with (first
            | ((with_reducible show wpList _ _ _ ({ dst := _, op := Op.load 36 _, type := _, pos := _, after := _, guard := _ } :: _) _ _); refine wpList_load_cs rfl 36 _ rfl ⟨w.heap.size, 0, none⟩ rfl (hdA z root) _ HB0.out.sgHead Try.underlying36 rfl Hs36.out ?_)
            | ((with_reducible show wpList _ _ _ ({ dst := _, op := Op.load 36 _, type := _, pos := _, after := _, guard := _ } :: _) _ _); refine wpList_load_cs rfl 36 _ rfl ⟨w.heap.size + 1, 0, none⟩ rfl (hdA z root) _ HB1.out.sgHead Try.underlying36 rfl Hs36.out ?_))
      go_ret
      exact ⟨by rw [Hf.out]; rfl, HW.out⟩
    obtain rfl := hh
    have dq1 : (i != i) = false := by simp
    by_cases hh : sig = sig'
    rotate_left
    · have dq : (sig == sig') = false := by simpa using hh
      have Hf := hid (show decide (Sg.k ⟨z, root, i, sig, path, a, cap⟩ = Sg.k ⟨z, root, i, sig', path', a', cap'⟩) = false from decide_eq_false (fun h => by simp only [Sg.k, Prod.mk.injEq] at h; exact hh h.2.2.2.1))
      clear hh
      go_wp2_with (first
            | ((with_reducible show wpList _ _ _ ({ dst := _, op := Op.load 36 _, type := _, pos := _, after := _, guard := _ } :: _) _ _); refine wpList_load_cs rfl 36 _ rfl ⟨w.heap.size, 0, none⟩ rfl (hdA z root) _ HB0.out.sgHead Try.underlying36 rfl Hs36.out ?_)
            | ((with_reducible show wpList _ _ _ ({ dst := _, op := Op.load 36 _, type := _, pos := _, after := _, guard := _ } :: _) _ _); refine wpList_load_cs rfl 36 _ rfl ⟨w.heap.size + 1, 0, none⟩ rfl (hdA z root) _ HB1.out.sgHead Try.underlying36 rfl Hs36.out ?_))
      go_ret
      exact ⟨by rw [Hf.out]; rfl, HW.out⟩
    obtain rfl := hh
    have dq2 : (sig == sig) = true := by simp
    by_cases hh : path.length = path'.length
    rotate_left
    · have dq : (((path.length : Nat) : Int) != (path'.length : Int)) = true := by simp; omega
      have Hf := hid (show decide (Sg.k ⟨z, root, i, sig, path, a, cap⟩ = Sg.k ⟨z, root, i, sig, path', a', cap'⟩) = false from decide_eq_false (fun h => by simp only [Sg.k, Prod.mk.injEq] at h; exact hh (congrArg List.length h.2.2.2.2)))
      clear hh
      go_wp2_with (first
            | ((with_reducible show wpList _ _ _ ({ dst := _, op := Op.load 36 _, type := _, pos := _, after := _, guard := _ } :: _) _ _); refine wpList_load_cs rfl 36 _ rfl ⟨w.heap.size, 0, none⟩ rfl (hdA z root) _ HB0.out.sgHead Try.underlying36 rfl Hs36.out ?_)
            | ((with_reducible show wpList _ _ _ ({ dst := _, op := Op.load 36 _, type := _, pos := _, after := _, guard := _ } :: _) _ _); refine wpList_load_cs rfl 36 _ rfl ⟨w.heap.size + 1, 0, none⟩ rfl (hdA z root) _ HB1.out.sgHead Try.underlying36 rfl Hs36.out ?_))
      go_ret
      exact ⟨by rw [Hf.out]; rfl, HW.out⟩
    have dq : (((path.length : Nat) : Int) != (path'.length : Int)) = false := by simp; omega
    have HL := hid hh
    clear hh
    go_upto_region 4 with (first
          | ((with_reducible show wpList _ _ _ ({ dst := _, op := Op.load 36 _, type := _, pos := _, after := _, guard := _ } :: _) _ _); refine wpList_load_cs rfl 36 _ rfl ⟨w.heap.size, 0, none⟩ rfl (hdA z root) _ HB0.out.sgHead Try.underlying36 rfl Hs36.out ?_)
          | ((with_reducible show wpList _ _ _ ({ dst := _, op := Op.load 36 _, type := _, pos := _, after := _, guard := _ } :: _) _ _); refine wpList_load_cs rfl 36 _ rfl ⟨w.heap.size + 1, 0, none⟩ rfl (hdA z root) _ HB1.out.sgHead Try.underlying36 rfl Hs36.out ?_))
    have Hfin := hid (show decide (Sg.k ⟨z, root, i, sig, path, a, cap⟩ = Sg.k ⟨z, root, i, sig, path', a', cap'⟩) = decide (path = path') by simp [Sg.k])
    have Ha := hid (show SlAt w2 32 (.slice a path.length cap) (hcs path) from Hp.out.below HW.out (Nat.le_refl _))
    have Hb := hid (show SlAt w2 32 (.slice a' path'.length cap') (hcs path') from Hp'.out.below HW.out (Nat.le_refl _))
    clear cA0 cA1 cA2 cA3 cA4 cA5 Hp Hp'
    clear dq1 dq2 hE
    go_loopw [5] (fun i wr => ∃ k : Nat, k ≤ path.length ∧ i = .int .i64 k ∧ path.take k = path'.take k ∧ Below w2.heap.size w2 wr) (fun i _ => path.length - (intOf i).toNat)
    case atStart => exact ⟨0, by omega, rfl, by simp, Below.refl _ _⟩
    case round =>
      obtain ⟨k, hk, rfl, htk, hbw⟩ := hrel
      have Htk := hid htk
      clear htk
      have c4 : wr.cell? ⟨w.heap.size, 35, none⟩ = some (.slice a path.length cap) := (HB0.out.later hbw).sg35 hr
      have c5 : wr.cell? ⟨w.heap.size + 1, 35, none⟩ = some (.slice a' path'.length cap') := (HB1.out.later hbw).sg35 hr
      by_cases hlt : k < path.length
      · have hlt2 : k < path'.length := by rw [← HL.out]; exact hlt
        have hk64 : (k : Int) < (path.length : Int) := by omega
        have hk65 : (k : Int) < (path'.length : Int) := by omega
        have Ha2 := Ha.out.below hbw (Nat.le_refl _)
        have Hb2 := Hb.out.below hbw (Nat.le_refl _)
        obtain ⟨b1, o1, rfl, hbl1, hcl1, hcell1⟩ := Ha2.at (i := k) (cs := path[k].map bcell) (by simp [hcs, hlt])
        obtain ⟨b2, o2, rfl, hbl2, hcl2, hcell2⟩ := Hb2.at (i := k) (cs := path'[k].map bcell) (by simp [hcs, hlt2])
        have hta := hid (show path.take (k + 1) = path.take k ++ [path[k]] from List.take_succ_eq_append_getElem hlt)
        have htb := hid (show path'.take (k + 1) = path'.take k ++ [path'[k]] from List.take_succ_eq_append_getElem hlt2)
        have hne := hid (show path[k] ≠ path'[k] → path ≠ path' from fun h h2 => h (by subst h2; rfl))
        generalize path[k] = x at *
        generalize path'[k] = y at *
        have hx : x.length = 32 := by simpa using hcl1
        have hy : y.length = 32 := by simpa using hcl2
        have Hsx := hid (show (Try.prog.info? 34).map (·.size) = some x.length by rw [hx]; exact Try.sizeHash)
        have Hsy := hid (show (Try.prog.info? 34).map (·.size) = some y.length by rw [hy]; exact Try.sizeHash)
        have hs5 := Try.sizeU8
        have hge := Try.guardHash10
        have Hc1 := hid hcell1; have Hc2 := hid hcell2
        have Hb0 := hid (HB0.out.later hbw); have Hb1 := hid (HB1.out.later hbw)
        clear hcell1 hcell2 hcl1 hcl2 Ha2 Hb2
        by_cases hxy : x = y
        · have hq : (x == y) = true := by simpa using hxy
          have Hxy := hid hxy
          clear hxy
          go_wp2_with fail
          refine wp_region_later (by kernel_rfl) (by kernel_rfl) ?_
          repeat (first
            | (refine wpQuiet_load_one rfl 37 _ rfl ⟨w.heap.size, 35, none⟩ rfl (.slice (some ⟨b1, o1, none⟩) path.length cap) _ (by rintro _ ⟨q, rfl⟩; exact (Hb0.out.later (lat_below q)).sg35 hr) Try.underlying37 rfl ?_; simp only [Act.put, List.setIfInBounds_toArray, List.set_cons_succ, List.set_cons_zero])
            | (refine wpQuiet_load_one rfl 37 _ rfl ⟨w.heap.size + 1, 35, none⟩ rfl (.slice (some ⟨b2, o2, none⟩) path'.length cap') _ (by rintro _ ⟨q, rfl⟩; exact (Hb1.out.later (lat_below q)).sg35 hr) Try.underlying37 rfl ?_; simp only [Act.put, List.setIfInBounds_toArray, List.set_cons_succ, List.set_cons_zero])
            | (refine wpQuiet_load_hcG rfl 34 _ rfl ⟨b1, o1 + k * 32, none⟩ rfl x _ (by rintro _ ⟨q, rfl⟩; exact lat_cells q hbl1 Hc1.out) Try.underlying34 rfl Hsx.out ?_; simp only [Act.put, List.setIfInBounds_toArray, List.set_cons_succ, List.set_cons_zero])
            | (refine wpQuiet_load_hcG rfl 34 _ rfl ⟨b2, o2 + k * 32, none⟩ rfl y _ (by rintro _ ⟨q, rfl⟩; exact lat_cells q hbl2 Hc2.out) Try.underlying34 rfl Hsy.out ?_; simp only [Act.put, List.setIfInBounds_toArray, List.set_cons_succ, List.set_cons_zero])
            | go_big_quiet_step (fail))
          refine wpQuiet_nil ?_
          rintro _ ⟨q3, rfl⟩
          have hb3 := lat_below q3
          generalize lat q3 = w3 at *
          go_wp2
          go_roundw
          case rel => exact ⟨k + 1, by omega, by go_num, by rw [hta.out, htb.out, Htk.out, Hxy.out], bth hbw hb3⟩
          case measure => simp [intOf]; omega
        · have hq : (x == y) = false := by simpa using hxy
          have Hf := hid (show decide (path = path') = false from decide_eq_false (hne.out hxy))
          clear hxy
          go_wp2_with fail
          refine wp_region_later (by kernel_rfl) (by kernel_rfl) ?_
          repeat (first
            | (refine wpQuiet_load_one rfl 37 _ rfl ⟨w.heap.size, 35, none⟩ rfl (.slice (some ⟨b1, o1, none⟩) path.length cap) _ (by rintro _ ⟨q, rfl⟩; exact (Hb0.out.later (lat_below q)).sg35 hr) Try.underlying37 rfl ?_; simp only [Act.put, List.setIfInBounds_toArray, List.set_cons_succ, List.set_cons_zero])
            | (refine wpQuiet_load_one rfl 37 _ rfl ⟨w.heap.size + 1, 35, none⟩ rfl (.slice (some ⟨b2, o2, none⟩) path'.length cap') _ (by rintro _ ⟨q, rfl⟩; exact (Hb1.out.later (lat_below q)).sg35 hr) Try.underlying37 rfl ?_; simp only [Act.put, List.setIfInBounds_toArray, List.set_cons_succ, List.set_cons_zero])
            | (refine wpQuiet_load_hcG rfl 34 _ rfl ⟨b1, o1 + k * 32, none⟩ rfl x _ (by rintro _ ⟨q, rfl⟩; exact lat_cells q hbl1 Hc1.out) Try.underlying34 rfl Hsx.out ?_; simp only [Act.put, List.setIfInBounds_toArray, List.set_cons_succ, List.set_cons_zero])
            | (refine wpQuiet_load_hcG rfl 34 _ rfl ⟨b2, o2 + k * 32, none⟩ rfl y _ (by rintro _ ⟨q, rfl⟩; exact lat_cells q hbl2 Hc2.out) Try.underlying34 rfl Hsy.out ?_; simp only [Act.put, List.setIfInBounds_toArray, List.set_cons_succ, List.set_cons_zero])
            | go_big_quiet_step (fail))
          refine wpQuiet_nil ?_
          rintro _ ⟨q3, rfl⟩
          have hb3 := lat_below q3
          generalize lat q3 = w3 at *
          go_wp2
          go_ret
          exact ⟨by rw [Hfin.out, Hf.out]; rfl, bth HW.out (bth hbw hb3)⟩
      · have hke : k = path.length := by omega
        subst hke
        have Hf := hid (show decide (path = path') = true from decide_eq_true (by
          have := Htk.out
          rw [List.take_length, HL.out, List.take_length] at this
          exact this))
        go_wp2
        go_ret
        exact ⟨by rw [Hfin.out, Hf.out]; rfl, bth HW.out hbw⟩
  · have d1 : (decide (z = z') && root == root') = false := by
      rw [Bool.eq_false_iff]; simp; exact fun h1 h2 => hh ⟨h1, h2⟩
    have hE : ∀ w, (Op.equalIn 10000 36 (.agg (hdA z root)) (.agg (hdA z' root'))).run Try.prog w = .ok false w := fun w => by rw [equalHead z z' root root' hr hr' w, d1]
    clear d1
    have Hf := hid (show decide (Sg.k ⟨z, root, i, sig, path, a, cap⟩ = Sg.k ⟨z', root', i', sig', path', a', cap'⟩) = false from decide_eq_false (fun h => hh (by simp only [Sg.k, Prod.mk.injEq] at h; exact ⟨h.1, h.2.1⟩)))
    clear hh
    go_enter Try.func54, Try.ntmps54
    go_wp2_with (first
      | ((with_reducible show wpList _ _ _ ({ dst := _, op := Op.load 36 _, type := _, pos := _, after := _, guard := _ } :: _) _ _); refine wpList_load_cs rfl 36 _ rfl ⟨w.heap.size, 0, none⟩ rfl (hdA z root) _ HB0.out.sgHead Try.underlying36 rfl Hs36.out ?_)
      | ((with_reducible show wpList _ _ _ ({ dst := _, op := Op.load 36 _, type := _, pos := _, after := _, guard := _ } :: _) _ _); refine wpList_load_cs rfl 36 _ rfl ⟨w.heap.size + 1, 0, none⟩ rfl (hdA z' root') _ HB1.out.sgHead Try.underlying36 rfl Hs36'.out ?_))
    go_ret
    exact ⟨by rw [Hf.out]; rfl, HW.out⟩
end Go.Proofs.Ytjpnlnbpaecciaa
