/- the document's script: read -/
import Derived.Test.YtdefipnmjfnpeaaDoorQScrRef5

set_option maxRecDepth 100000
namespace Go.Proofs.YtdefipnmjfnpeaaDoor
open Go.RowKit Go.Spec
theorem readP_short (l : List UInt8) (h : l.length ≤ 1) : readP l = [] := by
  match l, h with
  | [], _ => rfl
  | [_], _ => rfl
theorem readP_len (l : List UInt8) : (readP l).length ≤ l.length := by
  induction l using readP.induct with
  | case1 a b r ih => rw [readP]; simp only [List.length_cons]; omega
  | case2 l h => rw [readP]; exact Nat.zero_le _; exact h
theorem readP_drop (w : List UInt8) (m : Nat) (h : m + 1 < w.length) : readP (w.drop m) = UInt8.ofNat (valF (w[m]'(by omega)) * 16 + valF w[m + 1]) :: readP (w.drop (m + 2)) := by
  rw [List.drop_eq_getElem_cons (by omega), List.drop_eq_getElem_cons h, readP]
set_option maxHeartbeats 2000000 in
theorem rread_any (wd : List UInt8) (w : World) (hl : wd.length ≤ 1000000000) :
    Calls Tryd.prog 35 #[sv wd] w fun e w' => e = .returned (sv (readW wd)) ∧ Below w.heap.size w w' := by
  obtain ⟨i0, hi, hz0, hz1, hz2⟩ := info_parts Tryd.infoU8b
  have HI := hid hi; clear hi
  go_enter Tryd.func35, Tryd.ntmps35
  go_upto_region 3 with fail
  go_loopw [3, 4] (fun b i wr => ∃ (m : Nat) (out : List UInt8), m ≤ wd.length + 2 ∧ i = .int .i64 (m : Int) ∧ out.length ≤ m ∧ wr.ownsRow w.heap.size 5 1 b out.length (out.map bcell) ∧ readW wd = out ++ readP (wd.drop m) ∧ Below w.heap.size w wr) (fun _ i _ => wd.length + 2 - (intOf i).toNat)
  case atStart => exact ⟨1, [], by omega, rfl, by simp, World.ownsRow_nil _ _ _ _, rfl, Below.refl _ _⟩
  case round =>
    obtain ⟨m, out, hm, rfl, ho, hown, hun, hb⟩ := hrel
    have Hun := hid hun; clear hun
    by_cases hlt : m + 1 < wd.length
    · have hm1 : (m : Int) + 1 < (wd.length : Int) := by omega
      have hm0 : (m : Int) < (wd.length : Int) := by omega
      have hm0n : m < wd.length := by omega
      obtain ⟨ca, hca⟩ : ∃ ca, wd[m] = ca := ⟨_, rfl⟩
      obtain ⟨cb, hcb⟩ : ∃ cb, wd[m + 1] = cb := ⟨_, rfl⟩
      have Hun2 := hid (show readW wd = (out ++ [UInt8.ofNat (valF ca * 16 + valF cb)]) ++ readP (wd.drop (m + 2)) by rw [Hun.out, readP_drop wd m hlt, hca, hcb]; simp)
      have hva := valF_lt ca
      have hvb := valF_lt cb
      have C1 := hid (fun w9 => rvalue_any ca w9)
      have C2 := hid (fun w9 => rvalue_any cb w9)
      generalize valF ca = va at *
      generalize valF cb = vb at *
      have hcell : IntKind.u8.wrap ((va : Int) * 16 + (vb : Int)) = ((UInt8.ofNat (va * 16 + vb)).toNat : Int) := by
        rw [IntKind.wrap_u8, UInt8.toNat_ofNat']; omega
      have hvaI : (va : Int) < 16 := by omega
      have hvbI : (vb : Int) < 16 := by omega
      generalize UInt8.ofNat (va * 16 + vb) = z at *
      clear hva hvb
      go_upto_region 5 with fail
      have HO := hid hown; clear hown
      have HB := hid hb; clear hb
      refine wp_region_anyw (by kernel_rfl) ?_
      intro x0 he0 hb0
      have HO0 := hid (HO.out.later hb0)
      have HB0 := hid (bth HB.out hb0)
      clear he0 hb0 HB
      refine wpAny_of_C (C := fun _ => True) _ _ _ _ ?_
      show wpAnyC _ _ _ _ _ 16 #[false, false, false, false, false, false, false, false, false, false, false, false, false, false, false, false] _ _
      refine wpAnyC_segN (fuel := 12) 4 0 (by kernel_rfl) (fun _ _ d _ _ h => by cases d <;> exact h) (by kernel_rfl) (by as_aux_lemma => kernel_rfl) ?_
      simp only [List.take_succ_cons, List.take_zero, List.drop_succ_cons, List.drop_zero]
      repeat (first
        | go_big_quiet_skip
        | (go_big_quiet_want; go_big_quiet_op; first | go_big_quiet_on | (refine ⟨_, fun _ _ => rfl, ?_⟩; go_big_quiet_on)))
      refine wpQuiet_nil ?_
      simp only [segL, List.setIfInBounds_toArray, List.set_cons_succ, List.set_cons_zero]
      refine wpAnyC_segN (fuel := 8) 4 6 (by kernel_rfl) (fun _ _ d _ _ h => by cases d <;> exact h) (by kernel_rfl) (by as_aux_lemma => kernel_rfl) ?_
      simp only [List.take_succ_cons, List.take_zero, List.drop_succ_cons, List.drop_zero]
      repeat (first
        | go_big_quiet_skip
        | (go_big_quiet_want; go_big_quiet_op; first | go_big_quiet_on | (refine ⟨_, fun _ _ => rfl, ?_⟩; go_big_quiet_on)))
      refine wpQuiet_nil ?_
      simp only [segL, List.setIfInBounds_toArray, List.set_cons_succ, List.set_cons_zero]
      generalize hca2 : (ca.toNat : Int) = ya at *
      generalize hcb2 : (cb.toNat : Int) = yb at *
      refine wpAnyC_forced (i := 4) (by kernel_rfl) rfl (True.intro) ?_
      (first | dsimp only [List.getElem_toArray, List.getElem_cons_succ, List.getElem_cons_zero] | dsimp (maxSteps := 10000000) only [List.getElem_toArray, List.getElem_cons_succ, List.getElem_cons_zero] | skip); (first | go_frame | simp (maxSteps := 10000000) only [Act.put, List.setIfInBounds_toArray, List.set_cons_succ, List.set_cons_zero] | skip)
      go_wp2_with (go_at_call 45; refine (C1.out _).mono ?_; rintro e w5 ⟨rfl, hb5⟩)
      show wpAnyC _ _ _ _ _ _ _ _ _
      (first | dsimp only [List.getElem_toArray, List.getElem_cons_succ, List.getElem_cons_zero] | dsimp (maxSteps := 10000000) only [List.getElem_toArray, List.getElem_cons_succ, List.getElem_cons_zero] | skip); (first | go_frame | simp (maxSteps := 10000000) only [Act.put, List.setIfInBounds_toArray, List.set_cons_succ, List.set_cons_zero] | skip)
      have HO5 := hid (HO0.out.later hb5); have HB5 := hid (bth HB0.out hb5)
      clear hb5
      refine wpAnyC_segN (fuel := 6) 1 5 (by kernel_rfl) (fun _ _ d _ _ h => by cases d <;> exact h) (by kernel_rfl) (by as_aux_lemma => kernel_rfl) ?_
      simp only [List.take_succ_cons, List.take_zero, List.drop_succ_cons, List.drop_zero]
      repeat (first
        | go_big_quiet_skip
        | (go_big_quiet_want; go_big_quiet_op; first | go_big_quiet_on | (refine ⟨_, fun _ _ => rfl, ?_⟩; go_big_quiet_on)))
      refine wpQuiet_nil ?_
      simp only [segL, List.setIfInBounds_toArray, List.set_cons_succ, List.set_cons_zero]
      refine wpAnyC_forced (i := 10) (by kernel_rfl) rfl (True.intro) ?_
      (first | dsimp only [List.getElem_toArray, List.getElem_cons_succ, List.getElem_cons_zero] | dsimp (maxSteps := 10000000) only [List.getElem_toArray, List.getElem_cons_succ, List.getElem_cons_zero] | skip); (first | go_frame | simp (maxSteps := 10000000) only [Act.put, List.setIfInBounds_toArray, List.set_cons_succ, List.set_cons_zero] | skip)
      go_wp2_with (go_at_call 45; refine (C2.out _).mono ?_; rintro e w6 ⟨rfl, hb6⟩)
      show wpAnyC _ _ _ _ _ _ _ _ _
      (first | dsimp only [List.getElem_toArray, List.getElem_cons_succ, List.getElem_cons_zero] | dsimp (maxSteps := 10000000) only [List.getElem_toArray, List.getElem_cons_succ, List.getElem_cons_zero] | skip); (first | go_frame | simp (maxSteps := 10000000) only [Act.put, List.setIfInBounds_toArray, List.set_cons_succ, List.set_cons_zero] | skip)
      have HO6 := hid (HO5.out.later hb6); have HB6 := hid (bth HB5.out hb6)
      clear hb6 HB5 HB0
      refine wpAnyC_segN (fuel := 3) 2 11 (by kernel_rfl) (fun _ _ d _ _ h => by cases d <;> exact h) (by kernel_rfl) (by as_aux_lemma => kernel_rfl) ?_
      simp only [List.take_succ_cons, List.take_zero, List.drop_succ_cons, List.drop_zero]
      repeat (first
        | go_big_quiet_skip
        | (go_big_quiet_want; go_big_quiet_op; first | go_big_quiet_on | (refine ⟨_, fun _ _ => rfl, ?_⟩; go_big_quiet_on)))
      refine wpQuiet_nil ?_
      simp only [segL, List.setIfInBounds_toArray, List.set_cons_succ, List.set_cons_zero]
      refine wpAnyC_forced (i := 13) (by kernel_rfl) rfl (True.intro) ?_
      (first | dsimp only [List.getElem_toArray, List.getElem_cons_succ, List.getElem_cons_zero] | dsimp (maxSteps := 10000000) only [List.getElem_toArray, List.getElem_cons_succ, List.getElem_cons_zero] | skip); (first | go_frame | simp (maxSteps := 10000000) only [Act.put, List.setIfInBounds_toArray, List.set_cons_succ, List.set_cons_zero] | skip)
      go_wp2_with fail
      show wpAnyC _ _ _ _ _ _ _ _ (w6.alloc (.cells #[.int .u8 (z.toNat : Int)] 5))
      (first | dsimp only [List.getElem_toArray, List.getElem_cons_succ, List.getElem_cons_zero] | dsimp (maxSteps := 10000000) only [List.getElem_toArray, List.getElem_cons_succ, List.getElem_cons_zero] | skip); (first | go_frame | simp (maxSteps := 10000000) only [Act.put, List.setIfInBounds_toArray, List.set_cons_succ, List.set_cons_zero] | skip)
      have HO1 := hid (HO6.out.alloc (.cells #[.int .u8 (z.toNat : Int)] 5))
      have HB1 := hid (HB6.out.alloc HB6.out.size (.cells #[.int .u8 (z.toNat : Int)] 5))
      refine wpAnyC_forced (i := 14) (by kernel_rfl) rfl (True.intro) ?_
      (first | dsimp only [List.getElem_toArray, List.getElem_cons_succ, List.getElem_cons_zero] | dsimp (maxSteps := 10000000) only [List.getElem_toArray, List.getElem_cons_succ, List.getElem_cons_zero] | skip); (first | go_frame | simp (maxSteps := 10000000) only [Act.put, List.setIfInBounds_toArray, List.set_cons_succ, List.set_cons_zero] | skip)
      refine wpList_append_own _ rfl _ _ 50 rfl w.heap.size 5 i0 (.int .u8 0) 1 1 Tryd.underlying50 HI.out hz0 hz1 hz2 rfl (by decide) _ out.length _ rfl HO1.out ⟨w6.heap.size, 0, none⟩ 1 1 [.int .u8 (z.toNat : Int)] rfl rfl ?c2 ?c3 ?c4 ?c5 ?c6 ?_
      case c2 => exact fun j u hj => (Blk.new w6 #[.int .u8 (z.toNat : Int)] 5).cells j u hj
      case c3 => intro u hu; simp at hu; subst hu; rfl
      case c4 => unfold maxLen; omega
      case c5 => omega
      case c6 => exact HB1.out.size
      intro v' w1 hown' hgrow _
      refine wpList_nil ?_
      show wpAnyC _ _ _ _ _ _ _ _ _
      (first | dsimp only [List.getElem_toArray, List.getElem_cons_succ, List.getElem_cons_zero] | dsimp (maxSteps := 10000000) only [List.getElem_toArray, List.getElem_cons_succ, List.getElem_cons_zero] | skip); (first | go_frame | simp (maxSteps := 10000000) only [Act.put, List.setIfInBounds_toArray, List.set_cons_succ, List.set_cons_zero] | skip)
      have HB2 := hid (show Below w.heap.size w w1 from HB1.out.grown hgrow HB1.out.size (fun j hj => (HO6.out.lt j hj).1))
      have HO2 := hid (show w1.ownsRow w.heap.size 5 1 v' (out ++ [z]).length ((out ++ [z]).map bcell) from by
        rw [List.map_append, List.length_append]
        exact hown')
      refine wpAnyC_forced (i := 15) (by kernel_rfl) rfl (True.intro) ?_
      (first | dsimp only [List.getElem_toArray, List.getElem_cons_succ, List.getElem_cons_zero] | dsimp (maxSteps := 10000000) only [List.getElem_toArray, List.getElem_cons_succ, List.getElem_cons_zero] | skip); (first | go_frame | simp (maxSteps := 10000000) only [Act.put, List.setIfInBounds_toArray, List.set_cons_succ, List.set_cons_zero] | skip)
      go_wp2_with fail
      show wpAnyC _ _ _ _ _ _ _ _ _
      (first | dsimp only [List.getElem_toArray, List.getElem_cons_succ, List.getElem_cons_zero] | dsimp (maxSteps := 10000000) only [List.getElem_toArray, List.getElem_cons_succ, List.getElem_cons_zero] | skip); (first | go_frame | simp (maxSteps := 10000000) only [Act.put, List.setIfInBounds_toArray, List.set_cons_succ, List.set_cons_zero] | skip)
      refine wpAnyC_done (by kernel_rfl) True.intro ?_ _
      go_wp2
      go_roundw
      case rel => exact ⟨m + 2, out ++ [z], by omega, by go_num, by simp; omega, HO2.out, Hun2.out, HB2.out⟩
      case measure => simp [intOf]; omega
    · have hm1 : ¬ (m : Int) + 1 < (wd.length : Int) := by omega
      have hd1 : decide ((m : Int) + 1 < (wd.length : Int)) = false := decide_eq_false hm1
      have hm2 : (m : Int) ≤ 1000000002 := by omega
      obtain rfl : out = readW wd := by
        have := Hun.out
        rw [readP_short _ (by rw [List.length_drop]; omega), List.append_nil] at this
        exact this.symm
      have hcv := run_string_own (P := Tryd.prog) (w := wr) 50 9 5 Tryd.underlying50 Tryd.underlying5 Tryd.underlying9 hown
      have HB := hid hb; clear hb hown hlt hm1 Hun ho
      obtain ⟨o2, ho2⟩ : ∃ o, readW wd = o := ⟨_, rfl⟩
      rw [ho2] at hcv
      have Ho2 := hid ho2; clear ho2
      go_wp2_with fail
      go_ret
      exact ⟨by rw [Ho2.out]; rfl, HB.out⟩
end Go.Proofs.YtdefipnmjfnpeaaDoor
