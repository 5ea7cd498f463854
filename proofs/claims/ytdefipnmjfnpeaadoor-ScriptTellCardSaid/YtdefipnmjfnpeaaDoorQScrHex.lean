/- script.hex, script.unhex -/
import Derived.Test.YtdefipnmjfnpeaaDoorQAnyOp
import Derived.Test.YtdefipnmjfnpeaaDoorQScrLaw
import Derived.Test.YtdefipnmjfnpeaaDoorQScrSeg
import Derived.Test.YtdefipnmjfnpeaaDoorProg
import Derived.Test.YtdefipnmjfnpeaaDoorShelf
set_option maxRecDepth 100000
namespace Go.Proofs.YtdefipnmjfnpeaaDoor
open Go.RowKit Go.Spec
theorem Tryd.infoU8b : (Tryd.prog.info? 5).map (fun i => (i.zero, i.size, i.bytes)) = some (some (.int .u8 0), 1, 1) := by kernel_rfl
theorem hexd_index (n : Nat) (x : Int) (hx : x = n) (hn : n < 16) (w : World) :
    (Instr.index 9 (.string ⟨#[48, 49, 50, 51, 52, 53, 54, 55, 56, 57, 97, 98, 99, 100, 101, 102]⟩) (.int .u8 x)).run Tryd.prog w = .ok (.int .u8 ((hexd n).toNat : Int)) w := by
  subst hx
  have h16 : ∀ k : Fin 16, ((⟨#[48, 49, 50, 51, 52, 53, 54, 55, 56, 57, 97, 98, 99, 100, 101, 102]⟩ : ByteArray)[k.val]?) = some (hexd k.val) := by decide +kernel
  have hk := h16 ⟨n, hn⟩
  simp only at hk
  simp only [Instr.index, Sem.run_bind, asIntOf, Sem.run_pure, Result.andThen_ok, run_underlying Tryd.underlying9, Int.toNat_natCast]
  rw [if_pos (by omega), hk]
  rfl
theorem and15s (c : UInt8) : bits .and .u8 (c.toNat : Int) 15 = (c.toNat : Int) % 16 := by
  have := bits_mask .u8 8 (by decide) wraps_u8 4 (by decide) (c.toNat : Int) (by omega) (by have := c.toNat_lt; omega)
  simpa using this
theorem hexP_snoc (l : List UInt8) (c : UInt8) : hexP (l ++ [c]) = hexP l ++ [hexd (c.toNat / 16), hexd (c.toNat % 16)] := by
  unfold hexP; simp
theorem hexP_len (l : List UInt8) : (hexP l).length = 2 * l.length := by
  induction l with
  | nil => rfl
  | cons b r ih =>
    have e : hexP (b :: r) = hexd (b.toNat / 16) :: hexd (b.toNat % 16) :: hexP r := by simp [hexP]
    rw [e]; simp only [List.length_cons, ih]; omega
theorem hexW_len (l : List UInt8) : (hexW l).length = 2 * l.length + 1 := by unfold hexW; rw [List.length_cons, hexP_len]
set_option maxHeartbeats 2000000 in
theorem hex_any (l : List UInt8) (w : World) (hl : l.length ≤ 1000000000) :
    Calls Tryd.prog 22 #[sv l] w fun e w' => e = .returned (sv (hexW l)) ∧ Below w.heap.size w w' := by
  obtain ⟨i0, hi, hz0, hz1, hz2⟩ := info_parts Tryd.infoU8b
  have HI := hid hi; clear hi
  go_enter Tryd.func22, Tryd.ntmps22
  go_upto_region 2 with fail
  refine wp_world (fun W => W.ownsRow w.heap.size 5 1 (.slice (some ⟨w.heap.size, 0, none⟩) 1 1) 1 [.int .u8 120] ∧ Below w.heap.size w W) ⟨ownsRow_lit (w := w) (base := w.heap.size) (e := 5) (.int .u8 120) (Nat.le_refl _), (Below.refl _ _).alloc (Nat.le_refl _) _⟩ ?_
  rintro w0 ⟨hrow, hb0⟩
  go_upto_region 3 with fail
  go_loopw [3, 8] (fun b i wr => ∃ k : Nat, k ≤ l.length ∧ i = .int .i64 (k : Int) ∧ wr.ownsRow w.heap.size 5 1 b (2 * k + 1) ((hexW (l.take k)).map bcell) ∧ Below w.heap.size w wr) (fun _ i _ => l.length - (intOf i).toNat)
  case atStart => exact ⟨0, by omega, rfl, by simpa [hexW, hexP, bcell] using hrow, hb0⟩
  case round =>
    obtain ⟨k, hk, rfl, hown, hb⟩ := hrel
    clear hrow hb0
    by_cases hlt : k < l.length
    · have hkI : (k : Int) < (l.length : Int) := by omega
      obtain ⟨cc, hcc⟩ : ∃ cc, l[k] = cc := ⟨_, rfl⟩
      have Htk := hid (show hexW (l.take (k + 1)) = hexW (l.take k) ++ [hexd (cc.toNat / 16), hexd (cc.toNat % 16)] by
        rw [List.take_succ_eq_append_getElem hlt, hcc]; unfold hexW; rw [hexP_snoc]; rfl)
      have hand := and15s cc
      have hclt := cc.toNat_lt
      have hd1 := fun (w : World) => hexd_index (cc.toNat / 16) ((cc.toNat : Int) / 16) (by omega) (by omega) w
      have hd2 := fun (w : World) => hexd_index (cc.toNat % 16) ((cc.toNat : Int) % 16) (by omega) (by omega) w
      obtain ⟨c, hc⟩ : ∃ c, cc.toNat = c := ⟨_, rfl⟩
      rw [hc] at Htk hand hclt hd1 hd2
      generalize hexd (c / 16) = e1 at *
      generalize hexd (c % 16) = e2 at *
      go_upto_region 5 with fail
      have HO := hid hown; clear hown
      have HB := hid hb; clear hb
      refine wp_region_anyw (by kernel_rfl) ?_
      intro x0 he0 hb0
      have HX0 := hid hb0
      clear he0 hb0
      refine wpAny_of_C (C := fun _ => True) _ _ _ _ ?_
      show wpAnyC _ _ _ _ _ 14 #[false, false, false, false, false, false, false, false, false, false, false, false, false, false] _ _
      refine wpAnyC_segN (fuel := 3) 11 0 (by kernel_rfl) (fun _ _ d _ _ h => by cases d <;> exact h) (by kernel_rfl) (by as_aux_lemma => kernel_rfl) ?_
      simp only [List.take_succ_cons, List.take_zero, List.drop_succ_cons, List.drop_zero]
      repeat (first
        | go_big_quiet_skip
        | (go_big_quiet_want; go_big_quiet_op; first | go_big_quiet_on | (refine ⟨_, fun _ _ => rfl, ?_⟩; go_big_quiet_on)))
      refine wpQuiet_nil ?_
      simp only [segL, List.setIfInBounds_toArray, List.set_cons_succ, List.set_cons_zero]
      have HO0 := hid (HO.out.later HX0.out)
      have HB0 := hid (bth HB.out HX0.out)
      refine wpAnyC_forced (i := 11) (by kernel_rfl) rfl (True.intro) ?_
      (first | dsimp only [List.getElem_toArray, List.getElem_cons_succ, List.getElem_cons_zero] | dsimp (maxSteps := 10000000) only [List.getElem_toArray, List.getElem_cons_succ, List.getElem_cons_zero] | skip); (first | go_frame | simp (maxSteps := 10000000) only [Act.put, List.setIfInBounds_toArray, List.set_cons_succ, List.set_cons_zero] | skip)
      go_wp2_with fail
      show wpAnyC _ _ _ _ _ _ _ _ (x0.alloc (.cells #[.int .u8 (e1.toNat : Int), .int .u8 (e2.toNat : Int)] 5))
      (first | dsimp only [List.getElem_toArray, List.getElem_cons_succ, List.getElem_cons_zero] | dsimp (maxSteps := 10000000) only [List.getElem_toArray, List.getElem_cons_succ, List.getElem_cons_zero] | skip); (first | go_frame | simp (maxSteps := 10000000) only [Act.put, List.setIfInBounds_toArray, List.set_cons_succ, List.set_cons_zero] | skip)
      have HX1 := hid (HX0.out.alloc HX0.out.size (.cells #[.int .u8 (e1.toNat : Int), .int .u8 (e2.toNat : Int)] 5))
      have HO1 := hid (HO0.out.alloc (.cells #[.int .u8 (e1.toNat : Int), .int .u8 (e2.toNat : Int)] 5))
      have HB1 := hid (HB0.out.alloc HB0.out.size (.cells #[.int .u8 (e1.toNat : Int), .int .u8 (e2.toNat : Int)] 5))
      refine wpAnyC_forced (i := 12) (by kernel_rfl) rfl (True.intro) ?_
      (first | dsimp only [List.getElem_toArray, List.getElem_cons_succ, List.getElem_cons_zero] | dsimp (maxSteps := 10000000) only [List.getElem_toArray, List.getElem_cons_succ, List.getElem_cons_zero] | skip); (first | go_frame | simp (maxSteps := 10000000) only [Act.put, List.setIfInBounds_toArray, List.set_cons_succ, List.set_cons_zero] | skip)
      refine wpList_append_own _ rfl _ _ 50 rfl w.heap.size 5 i0 (.int .u8 0) 1 1 Tryd.underlying50 HI.out hz0 hz1 hz2 rfl (by decide) _ (2 * k + 1) _ rfl HO1.out ⟨x0.heap.size, 0, none⟩ 2 2 [.int .u8 (e1.toNat : Int), .int .u8 (e2.toNat : Int)] rfl rfl ?c2 ?c3 ?c4 ?c5 ?c6 ?_
      case c2 => exact fun j u hj => (Blk.new x0 #[.int .u8 (e1.toNat : Int), .int .u8 (e2.toNat : Int)] 5).cells j u hj
      case c3 => intro u hu; simp at hu; rcases hu with rfl | rfl <;> rfl
      case c4 => unfold maxLen; omega
      case c5 => omega
      case c6 => exact HB1.out.size
      intro v' w1 hown' hgrow _
      refine wpList_nil ?_
      show wpAnyC _ _ _ _ _ _ _ _ _
      (first | dsimp only [List.getElem_toArray, List.getElem_cons_succ, List.getElem_cons_zero] | dsimp (maxSteps := 10000000) only [List.getElem_toArray, List.getElem_cons_succ, List.getElem_cons_zero] | skip); (first | go_frame | simp (maxSteps := 10000000) only [Act.put, List.setIfInBounds_toArray, List.set_cons_succ, List.set_cons_zero] | skip)
      have hge : ∀ j, Value.ownBlock u3 = some j → w.heap.size ≤ j := fun j hj => (HO.out.lt j hj).1
      have HB2 := hid (show Below w.heap.size w w1 from HB1.out.grown hgrow HB1.out.size hge)
      have HO2 := hid (show w1.ownsRow w.heap.size 5 1 v' (2 * (k + 1) + 1) ((hexW (l.take (k + 1))).map bcell) from by
        rw [Htk.out, List.map_append]
        exact hown')
      refine wpAnyC_forced (i := 13) (by kernel_rfl) rfl (True.intro) ?_
      (first | dsimp only [List.getElem_toArray, List.getElem_cons_succ, List.getElem_cons_zero] | dsimp (maxSteps := 10000000) only [List.getElem_toArray, List.getElem_cons_succ, List.getElem_cons_zero] | skip); (first | go_frame | simp (maxSteps := 10000000) only [Act.put, List.setIfInBounds_toArray, List.set_cons_succ, List.set_cons_zero] | skip)
      go_wp2_with fail
      show wpAnyC _ _ _ _ _ _ _ _ _
      (first | dsimp only [List.getElem_toArray, List.getElem_cons_succ, List.getElem_cons_zero] | dsimp (maxSteps := 10000000) only [List.getElem_toArray, List.getElem_cons_succ, List.getElem_cons_zero] | skip); (first | go_frame | simp (maxSteps := 10000000) only [Act.put, List.setIfInBounds_toArray, List.set_cons_succ, List.set_cons_zero] | skip)
      refine wpAnyC_done (by kernel_rfl) True.intro ?_ _
      go_wp2
      go_roundw
      case rel => exact ⟨k + 1, by omega, by go_num, HO2.out, HB2.out⟩
      case measure => simp [intOf]; omega
    · obtain rfl : k = l.length := by omega
      rw [List.take_length] at hown
      have hcv := run_string_own (P := Tryd.prog) (w := wr) 50 9 5 Tryd.underlying50 Tryd.underlying5 Tryd.underlying9 hown
      have HB := hid hb; clear hb hown hlt
      go_wp2
      go_ret
      exact ⟨rfl, HB.out⟩
end Go.Proofs.YtdefipnmjfnpeaaDoor
