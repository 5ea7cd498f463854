/- slices.Index, Contains of heads; Clone of hashes -/
import Derived.Test.YtjpnlnbpaecciaaQSame10

set_option maxRecDepth 100000
namespace Go.Proofs.Ytjpnlnbpaecciaa
open Go.RowKit Go.Spec
set_option maxHeartbeats 4000000 in
theorem index_any (v : Value) (hs : List Hd) (z : Int) (r : List UInt8) (w : World) (hv : HdsAt w v hs) (hr : r.length = 32) (hn : hs.length ≤ 1000000000) :
    Calls Try.prog 89 #[v, .agg (hdA z r)] w fun e w' => (∃ i : Int, e = .returned (.int .i64 i) ∧ decide (0 ≤ i) = decide ((z, r) ∈ hs.map Hd.k)) ∧ Below w.heap.size w w' := by
  obtain ⟨a, cap, rfl, hcap⟩ := hv.form
  have Hv := hid hv
  clear hv
  have hgd := Try.guardHead
  have Hsx := hid (show (Try.prog.info? 36).map (·.size) = some (hdA z r).size by rw [hdA_size hr]; exact Try.sizeHead)
  have HB0 := hid (Blk.new w (hdA z r) 36)
  have HW := hid ((Below.refl _ w).alloc (Nat.le_refl _) (.cells (hdA z r) 36))
  have Hv1 := hid (Hv.out.below HW.out)
  go_enter Try.func89, Try.ntmps89
  go_upto_region 1 with fail
  have hww : w.heap.size < (w.alloc (.cells (hdA z r) 36)).heap.size := by simp
  generalize w.alloc (.cells (hdA z r) 36) = w1 at *
  go_upto_region 2 with fail
  go_loopw [8] (fun i wr => ∃ k : Nat, k ≤ hs.length ∧ i = .int .i64 k ∧ (z, r) ∉ (hs.take k).map Hd.k ∧ Below w1.heap.size w1 wr) (fun i _ => hs.length - (intOf i).toNat)
  case atStart => exact ⟨0, by omega, rfl, by simp, Below.refl _ _⟩
  case round =>
    obtain ⟨k, hk, rfl, htk, hbw⟩ := hrel
    have Htk := hid htk
    clear htk
    by_cases hlt : k < hs.length
    · have hk64 : (k : Int) < (hs.length : Int) := by omega
      have Hv2 := Hv1.out.below hbw
      have hy1 := Hv2.ok _ (List.getElem_mem hlt)
      obtain ⟨b2, o2, rfl, hbl2, hcell2⟩ := Hv2.get hlt
      have htb := hid (show hs.take (k + 1) = hs.take k ++ [hs[k]] from List.take_succ_eq_append_getElem hlt)
      have hin := hid (show hs[k].k ∈ hs.map Hd.k from List.mem_map_of_mem (List.getElem_mem hlt))
      generalize hs[k] = y at *
      obtain ⟨z', r'⟩ := y
      simp only at hy1 hcell2
      have Hsy := hid (show (Try.prog.info? 36).map (·.size) = some (hdA z' r').size by rw [hdA_size hy1]; exact Try.sizeHead)
      have Hc2 := hid hcell2
      have Hb0 := hid (HB0.out.later hbw)
      have hE := fun w => equalHead z z' r r' hr hy1 w
      clear hcell2 Hv2 hy1
      by_cases hxy : z = z' ∧ r = r'
      · obtain ⟨rfl, rfl⟩ := hxy
        rw [show (decide (z = z) && r == r) = true by simp] at hE
        go_upto_region 4 with fail
        refine wp_region_later (by kernel_rfl) (by kernel_rfl) ?_
        repeat (first
          | (refine wpQuiet_load_aggG rfl 36 _ rfl ⟨w.heap.size, 0, none⟩ rfl (hdA z r) _ (by rintro _ ⟨q, rfl⟩; exact (Hb0.out.later (lat_below q)).cells) Try.underlying36 rfl Hsx.out ?_; simp only [Act.put, List.setIfInBounds_toArray, List.set_cons_succ, List.set_cons_zero])
          | (refine wpQuiet_load_aggG rfl 36 _ rfl ⟨b2, o2 + k * 33, none⟩ rfl (hdA z r) _ (by rintro _ ⟨q, rfl⟩; exact lat_cells q hbl2 Hc2.out) Try.underlying36 rfl Hsx.out ?_; simp only [Act.put, List.setIfInBounds_toArray, List.set_cons_succ, List.set_cons_zero])
          | go_big_quiet_step (fail))
        refine wpQuiet_nil ?_
        rintro _ ⟨q3, rfl⟩
        have hb3 := lat_below q3
        generalize lat q3 = w3 at *
        go_wp2
        go_ret
        exact ⟨⟨_, rfl, by rw [decide_eq_true (show (0 : Int) ≤ (k : Int) by omega), decide_eq_true (show (z, r) ∈ hs.map Hd.k from hin.out)]⟩, HW.out.trans ((bth hbw hb3).mono HW.out.size)⟩
      · rw [show (decide (z = z') && r == r') = false by rw [Bool.eq_false_iff]; simp; exact fun h1 h2 => hxy ⟨h1, h2⟩] at hE
        have Hxy := hid hxy
        clear hxy
        go_upto_region 4 with fail
        refine wp_region_later (by kernel_rfl) (by kernel_rfl) ?_
        repeat (first
          | (refine wpQuiet_load_aggG rfl 36 _ rfl ⟨w.heap.size, 0, none⟩ rfl (hdA z r) _ (by rintro _ ⟨q, rfl⟩; exact (Hb0.out.later (lat_below q)).cells) Try.underlying36 rfl Hsx.out ?_; simp only [Act.put, List.setIfInBounds_toArray, List.set_cons_succ, List.set_cons_zero])
          | (refine wpQuiet_load_aggG rfl 36 _ rfl ⟨b2, o2 + k * 33, none⟩ rfl (hdA z' r') _ (by rintro _ ⟨q, rfl⟩; exact lat_cells q hbl2 Hc2.out) Try.underlying36 rfl Hsy.out ?_; simp only [Act.put, List.setIfInBounds_toArray, List.set_cons_succ, List.set_cons_zero])
          | go_big_quiet_step (fail))
        refine wpQuiet_nil ?_
        rintro _ ⟨q3, rfl⟩
        have hb3 := lat_below q3
        generalize lat q3 = w3 at *
        go_wp2
        go_roundw
        case rel =>
          refine ⟨k + 1, by omega, by go_num, ?_, bth hbw hb3⟩
          rw [htb.out, List.map_append, List.mem_append]
          rintro (h | h)
          · exact Htk.out h
          · simp only [List.map_cons, List.map_nil, List.mem_singleton, Hd.k, Prod.mk.injEq] at h
            exact Hxy.out h
        case measure => simp [intOf]; omega
    · have hke : k = hs.length := by omega
      subst hke
      go_wp2
      go_ret
      refine ⟨⟨_, rfl, ?_⟩, HW.out.trans (hbw.mono HW.out.size)⟩
      have := Htk.out
      rw [List.take_length] at this
      rw [decide_eq_false this]; rfl
set_option maxHeartbeats 4000000 in
theorem contains_any (v : Value) (hs : List Hd) (z : Int) (r : List UInt8) (w : World) (hv : HdsAt w v hs) (hr : r.length = 32) (hn : hs.length ≤ 1000000000) :
    Calls Try.prog 55 #[v, .agg (hdA z r)] w fun e w' => e = .returned (.bool (decide ((z, r) ∈ hs.map Hd.k))) ∧ Below w.heap.size w w' := by
  have Hv := hid hv
  clear hv
  have Hsx := hid (show (Try.prog.info? 36).map (·.size) = some (hdA z r).size by rw [hdA_size hr]; exact Try.sizeHead)
  go_enter Try.func55, Try.ntmps55
  go_wp2_with (first
    | ((with_reducible show wpList _ _ _ ({ dst := _, op := Op.load 36 _, type := _, pos := _, after := _, guard := _ } :: _) _ _); refine wpList_load_newA rfl 36 _ rfl rfl _ 36 _ Try.underlying36 rfl Hsx.out ?_)
    | (go_at_call 89; refine (index_any v hs z r _ (Hv.out.below ((Below.refl _ w).alloc (Nat.le_refl _) _)) hr hn).mono ?_; rintro e w1 ⟨⟨i, rfl, hi⟩, hb⟩; have Hi := hid hi; clear hi))
  go_ret
  exact ⟨by rw [← Hi.out]; rfl, ((Below.refl _ w).alloc (Nat.le_refl _) _).trans (hb.mono (by simp))⟩
end Go.Proofs.Ytjpnlnbpaecciaa
