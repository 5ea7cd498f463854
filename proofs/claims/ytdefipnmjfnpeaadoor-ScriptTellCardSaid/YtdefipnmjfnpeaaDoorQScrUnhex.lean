/- script.unhex -/
import Derived.Test.YtdefipnmjfnpeaaDoorQScrHex

set_option maxRecDepth 100000
namespace Go.Proofs.YtdefipnmjfnpeaaDoor
open Go.RowKit Go.Spec
/-- the digits, as the program finds them -/
def hexDs : List UInt8 := [48, 49, 50, 51, 52, 53, 54, 55, 56, 57, 97, 98, 99, 100, 101, 102]
def idxD (c : UInt8) : Int := Lib.indexByte hexDs c
def orD (x y : Int) : Int := bits .or .i64 (x * 16) (bits .and .i64 y 15)
def uhB (a b : UInt8) : UInt8 := UInt8.ofNat (IntKind.u8.wrap (orD (idxD a) (idxD b))).toNat
def unP : List UInt8 → List UInt8
  | a :: b :: r => uhB a b :: unP r
  | _ => []
def unhexL (w : List UInt8) : List UInt8 := unP (w.drop 1)
theorem uhB_cell (a b : UInt8) : IntKind.u8.wrap (orD (idxD a) (idxD b)) = ((uhB a b).toNat : Int) := by
  unfold uhB
  generalize orD (idxD a) (idxD b) = z
  rw [IntKind.wrap_u8, UInt8.toNat_ofNat']
  omega
theorem uhB_hexd : ∀ n m : Fin 16, uhB (hexd n.val) (hexd m.val) = UInt8.ofNat (n.val * 16 + m.val) := by decide +kernel
theorem un_hexP (t : List UInt8) : unP (hexP t) = t := by
  induction t with
  | nil => rfl
  | cons b r ih =>
    have hb : b.toNat < 256 := UInt8.toNat_lt b
    have e : hexP (b :: r) = hexd (b.toNat / 16) :: hexd (b.toNat % 16) :: hexP r := by simp [hexP]
    have e2 := uhB_hexd ⟨b.toNat / 16, by omega⟩ ⟨b.toNat % 16, by omega⟩
    simp only at e2
    rw [e, unP, ih, e2]
    congr 1
    apply UInt8.toNat.inj
    rw [UInt8.toNat_ofNat']; omega
theorem unhex_hex (t : List UInt8) : unhexL (hexW t) = t := by
  unfold unhexL hexW
  rw [List.drop_one, List.tail_cons, un_hexP]
theorem unP_short (l : List UInt8) (h : l.length ≤ 1) : unP l = [] := by
  match l, h with
  | [], _ => rfl
  | [_], _ => rfl
theorem unP_len (l : List UInt8) : (unP l).length ≤ l.length := by
  induction l using unP.induct with
  | case1 a b r ih => rw [unP]; simp only [List.length_cons]; omega
  | case2 l h => rw [unP]; exact Nat.zero_le _; exact h
theorem unP_drop (w : List UInt8) (m : Nat) (h : m + 1 < w.length) : unP (w.drop m) = uhB (w[m]'(by omega)) w[m + 1] :: unP (w.drop (m + 2)) := by
  rw [List.drop_eq_getElem_cons (by omega), List.drop_eq_getElem_cons h, unP]
theorem idx_range (c : UInt8) : -1 ≤ idxD c ∧ idxD c ≤ 15 := by
  have h1 := Lib.indexByte_ge hexDs c
  refine ⟨h1, ?_⟩
  have : ∀ c : Fin 256, Lib.indexByte hexDs (UInt8.ofNat c.val) ≤ 15 := by decide +kernel
  have h2 := this ⟨c.toNat, c.toNat_lt⟩
  simp only [UInt8.ofNat_toNat] at h2
  exact h2
set_option maxHeartbeats 2000000 in
theorem unhex_any (wd : List UInt8) (w : World) (hl : wd.length ≤ 1000000000) :
    Calls Tryd.prog 32 #[sv wd] w fun e w' => e = .returned (.tuple #[sv (unhexL wd), .bool (hexW (unhexL wd) == wd)]) ∧ Below w.heap.size w w' := by
  obtain ⟨i0, hi, hz0, hz1, hz2⟩ := info_parts Tryd.infoU8b
  have HI := hid hi; clear hi
  go_enter Tryd.func32, Tryd.ntmps32
  go_upto_region 3 with fail
  go_loopw [4, 5] (fun b i wr => ∃ (m : Nat) (out : List UInt8), m ≤ wd.length + 2 ∧ i = .int .i64 (m : Int) ∧ out.length ≤ m ∧ wr.ownsRow w.heap.size 5 1 b out.length (out.map bcell) ∧ unhexL wd = out ++ unP (wd.drop m) ∧ Below w.heap.size w wr) (fun _ i _ => wd.length + 2 - (intOf i).toNat)
  case atStart => exact ⟨1, [], by omega, rfl, by simp, World.ownsRow_nil _ _ _ _, rfl, Below.refl _ _⟩
  case round =>
    obtain ⟨m, out, hm, rfl, ho, hown, hun, hb⟩ := hrel
    have Hun := hid hun; clear hun
    by_cases hlt : m + 1 < wd.length
    · have hm1 : (m : Int) + 1 < (wd.length : Int) := by omega
      have hm0 : (m : Int) < (wd.length : Int) := by omega
      have hm0n : m < wd.length := by omega
      obtain ⟨ca, hca⟩ : ∃ ca, wd[m] = ca := ⟨_, rfl⟩
      obtain ⟨cb, hcb⟩ : ∃ cb, wd[m + 1] = cb := ⟨_, rfl⟩
      have Hun2 := hid (show unhexL wd = (out ++ [uhB ca cb]) ++ unP (wd.drop (m + 2)) by rw [Hun.out, unP_drop wd m hlt, hca, hcb]; simp)
      obtain ⟨hx1, hx2⟩ := idx_range ca
      obtain ⟨hy1, hy2⟩ := idx_range cb
      have hcell := uhB_cell ca cb
      unfold orD at hcell
      have C1 := hid (show ∀ w, Calls Tryd.prog 44 #[.string ⟨#[48, 49, 50, 51, 52, 53, 54, 55, 56, 57, 97, 98, 99, 100, 101, 102]⟩, .int .u8 (ca.toNat : Int)] w fun e w' => e = .returned (.int .i64 (idxD ca)) ∧ w' = w from fun w => by
        have := Tryd.strings_IndexByte ⟨#[48, 49, 50, 51, 52, 53, 54, 55, 56, 57, 97, 98, 99, 100, 101, 102]⟩ (ca.toNat : Int) w
        simpa [idxD, hexDs] using this)
      have C2 := hid (show ∀ w, Calls Tryd.prog 44 #[.string ⟨#[48, 49, 50, 51, 52, 53, 54, 55, 56, 57, 97, 98, 99, 100, 101, 102]⟩, .int .u8 (cb.toNat : Int)] w fun e w' => e = .returned (.int .i64 (idxD cb)) ∧ w' = w from fun w => by
        have := Tryd.strings_IndexByte ⟨#[48, 49, 50, 51, 52, 53, 54, 55, 56, 57, 97, 98, 99, 100, 101, 102]⟩ (cb.toNat : Int) w
        simpa [idxD, hexDs] using this)
      generalize idxD ca = x at *
      generalize idxD cb = y at *
      generalize uhB ca cb = z at *
      go_upto_region 5 with fail
      have HO := hid hown; clear hown
      have HB := hid hb; clear hb
      refine wp_region_anyw (by kernel_rfl) ?_
      intro x0 he0 hb0
      have HX0 := hid hb0
      clear he0 hb0
      refine wpAny_of_C (C := fun _ => True) _ _ _ _ ?_
      show wpAnyC _ _ _ _ _ 17 #[false, false, false, false, false, false, false, false, false, false, false, false, false, false, false, false, false] _ _
      refine wpAnyC_segN (fuel := 13) 4 0 (by kernel_rfl) (fun _ _ d _ _ h => by cases d <;> exact h) (by kernel_rfl) (by as_aux_lemma => kernel_rfl) ?_
      simp only [List.take_succ_cons, List.take_zero, List.drop_succ_cons, List.drop_zero]
      repeat (first
        | go_big_quiet_skip
        | (go_big_quiet_want; go_big_quiet_op; first | go_big_quiet_on | (refine ⟨_, fun _ _ => rfl, ?_⟩; go_big_quiet_on)))
      refine wpQuiet_nil ?_
      simp only [segL, List.setIfInBounds_toArray, List.set_cons_succ, List.set_cons_zero]
      refine wpAnyC_segN (fuel := 9) 4 6 (by kernel_rfl) (fun _ _ d _ _ h => by cases d <;> exact h) (by kernel_rfl) (by as_aux_lemma => kernel_rfl) ?_
      simp only [List.take_succ_cons, List.take_zero, List.drop_succ_cons, List.drop_zero]
      repeat (first
        | go_big_quiet_skip
        | (go_big_quiet_want; go_big_quiet_op; first | go_big_quiet_on | (refine ⟨_, fun _ _ => rfl, ?_⟩; go_big_quiet_on)))
      refine wpQuiet_nil ?_
      simp only [segL, List.setIfInBounds_toArray, List.set_cons_succ, List.set_cons_zero]
      have HO0 := hid (HO.out.later HX0.out)
      have HB0 := hid (bth HB.out HX0.out)
      clear HB HX0
      generalize hca2 : (ca.toNat : Int) = ya at *
      generalize hcb2 : (cb.toNat : Int) = yb at *
      refine wpAnyC_forced (i := 4) (by kernel_rfl) rfl (True.intro) ?_
      (first | dsimp only [List.getElem_toArray, List.getElem_cons_succ, List.getElem_cons_zero] | dsimp (maxSteps := 10000000) only [List.getElem_toArray, List.getElem_cons_succ, List.getElem_cons_zero] | skip); (first | go_frame | simp (maxSteps := 10000000) only [Act.put, List.setIfInBounds_toArray, List.set_cons_succ, List.set_cons_zero] | skip)
      go_wp2_with (go_at_call 44; refine (C1.out _).mono ?_; rintro e w9 ⟨rfl, h9⟩; obtain rfl := h9.symm; clear h9)
      show wpAnyC _ _ _ _ _ _ _ _ _
      (first | dsimp only [List.getElem_toArray, List.getElem_cons_succ, List.getElem_cons_zero] | dsimp (maxSteps := 10000000) only [List.getElem_toArray, List.getElem_cons_succ, List.getElem_cons_zero] | skip); (first | go_frame | simp (maxSteps := 10000000) only [Act.put, List.setIfInBounds_toArray, List.set_cons_succ, List.set_cons_zero] | skip)
      refine wpAnyC_segN (fuel := 7) 1 5 (by kernel_rfl) (fun _ _ d _ _ h => by cases d <;> exact h) (by kernel_rfl) (by as_aux_lemma => kernel_rfl) ?_
      simp only [List.take_succ_cons, List.take_zero, List.drop_succ_cons, List.drop_zero]
      repeat (first
        | go_big_quiet_skip
        | (go_big_quiet_want; go_big_quiet_op; first | go_big_quiet_on | (refine ⟨_, fun _ _ => rfl, ?_⟩; go_big_quiet_on)))
      refine wpQuiet_nil ?_
      simp only [segL, List.setIfInBounds_toArray, List.set_cons_succ, List.set_cons_zero]
      refine wpAnyC_forced (i := 10) (by kernel_rfl) rfl (True.intro) ?_
      (first | dsimp only [List.getElem_toArray, List.getElem_cons_succ, List.getElem_cons_zero] | dsimp (maxSteps := 10000000) only [List.getElem_toArray, List.getElem_cons_succ, List.getElem_cons_zero] | skip); (first | go_frame | simp (maxSteps := 10000000) only [Act.put, List.setIfInBounds_toArray, List.set_cons_succ, List.set_cons_zero] | skip)
      go_wp2_with (go_at_call 44; refine (C2.out _).mono ?_; rintro e w9 ⟨rfl, h9⟩; obtain rfl := h9.symm; clear h9)
      show wpAnyC _ _ _ _ _ _ _ _ _
      (first | dsimp only [List.getElem_toArray, List.getElem_cons_succ, List.getElem_cons_zero] | dsimp (maxSteps := 10000000) only [List.getElem_toArray, List.getElem_cons_succ, List.getElem_cons_zero] | skip); (first | go_frame | simp (maxSteps := 10000000) only [Act.put, List.setIfInBounds_toArray, List.set_cons_succ, List.set_cons_zero] | skip)
      refine wpAnyC_segN (fuel := 3) 3 11 (by kernel_rfl) (fun _ _ d _ _ h => by cases d <;> exact h) (by kernel_rfl) (by as_aux_lemma => kernel_rfl) ?_
      simp only [List.take_succ_cons, List.take_zero, List.drop_succ_cons, List.drop_zero]
      repeat (first
        | go_big_quiet_skip
        | (go_big_quiet_want; go_big_quiet_op; first | go_big_quiet_on | (refine ⟨_, fun _ _ => rfl, ?_⟩; go_big_quiet_on)))
      refine wpQuiet_nil ?_
      simp only [segL, List.setIfInBounds_toArray, List.set_cons_succ, List.set_cons_zero]
      refine wpAnyC_forced (i := 14) (by kernel_rfl) rfl (True.intro) ?_
      (first | dsimp only [List.getElem_toArray, List.getElem_cons_succ, List.getElem_cons_zero] | dsimp (maxSteps := 10000000) only [List.getElem_toArray, List.getElem_cons_succ, List.getElem_cons_zero] | skip); (first | go_frame | simp (maxSteps := 10000000) only [Act.put, List.setIfInBounds_toArray, List.set_cons_succ, List.set_cons_zero] | skip)
      go_wp2_with fail
      show wpAnyC _ _ _ _ _ _ _ _ (x0.alloc (.cells #[.int .u8 (z.toNat : Int)] 5))
      (first | dsimp only [List.getElem_toArray, List.getElem_cons_succ, List.getElem_cons_zero] | dsimp (maxSteps := 10000000) only [List.getElem_toArray, List.getElem_cons_succ, List.getElem_cons_zero] | skip); (first | go_frame | simp (maxSteps := 10000000) only [Act.put, List.setIfInBounds_toArray, List.set_cons_succ, List.set_cons_zero] | skip)
      have HO1 := hid (HO0.out.alloc (.cells #[.int .u8 (z.toNat : Int)] 5))
      have HB1 := hid (HB0.out.alloc HB0.out.size (.cells #[.int .u8 (z.toNat : Int)] 5))
      refine wpAnyC_forced (i := 15) (by kernel_rfl) rfl (True.intro) ?_
      (first | dsimp only [List.getElem_toArray, List.getElem_cons_succ, List.getElem_cons_zero] | dsimp (maxSteps := 10000000) only [List.getElem_toArray, List.getElem_cons_succ, List.getElem_cons_zero] | skip); (first | go_frame | simp (maxSteps := 10000000) only [Act.put, List.setIfInBounds_toArray, List.set_cons_succ, List.set_cons_zero] | skip)
      refine wpList_append_own _ rfl _ _ 50 rfl w.heap.size 5 i0 (.int .u8 0) 1 1 Tryd.underlying50 HI.out hz0 hz1 hz2 rfl (by decide) _ out.length _ rfl HO1.out ⟨x0.heap.size, 0, none⟩ 1 1 [.int .u8 (z.toNat : Int)] rfl rfl ?c2 ?c3 ?c4 ?c5 ?c6 ?_
      case c2 => exact fun j u hj => (Blk.new x0 #[.int .u8 (z.toNat : Int)] 5).cells j u hj
      case c3 => intro u hu; simp at hu; subst hu; rfl
      case c4 => unfold maxLen; omega
      case c5 => omega
      case c6 => exact HB1.out.size
      intro v' w1 hown' hgrow _
      refine wpList_nil ?_
      show wpAnyC _ _ _ _ _ _ _ _ _
      (first | dsimp only [List.getElem_toArray, List.getElem_cons_succ, List.getElem_cons_zero] | dsimp (maxSteps := 10000000) only [List.getElem_toArray, List.getElem_cons_succ, List.getElem_cons_zero] | skip); (first | go_frame | simp (maxSteps := 10000000) only [Act.put, List.setIfInBounds_toArray, List.set_cons_succ, List.set_cons_zero] | skip)
      have hge : ∀ j, Value.ownBlock u4 = some j → w.heap.size ≤ j := fun j hj => (HO0.out.lt j hj).1
      have HB2 := hid (show Below w.heap.size w w1 from HB1.out.grown hgrow HB1.out.size hge)
      have HO2 := hid (show w1.ownsRow w.heap.size 5 1 v' (out ++ [z]).length ((out ++ [z]).map bcell) from by
        rw [List.map_append, List.length_append]
        exact hown')
      refine wpAnyC_forced (i := 16) (by kernel_rfl) rfl (True.intro) ?_
      (first | dsimp only [List.getElem_toArray, List.getElem_cons_succ, List.getElem_cons_zero] | dsimp (maxSteps := 10000000) only [List.getElem_toArray, List.getElem_cons_succ, List.getElem_cons_zero] | skip); (first | go_frame | simp (maxSteps := 10000000) only [Act.put, List.setIfInBounds_toArray, List.set_cons_succ, List.set_cons_zero] | skip)
      go_wp2_with fail
      show wpAnyC _ _ _ _ _ _ _ _ _
      (first | dsimp only [List.getElem_toArray, List.getElem_cons_succ, List.getElem_cons_zero] | dsimp (maxSteps := 10000000) only [List.getElem_toArray, List.getElem_cons_succ, List.getElem_cons_zero] | skip); (first | go_frame | simp (maxSteps := 10000000) only [Act.put, List.setIfInBounds_toArray, List.set_cons_succ, List.set_cons_zero] | skip)
      refine wpAnyC_done (by kernel_rfl) True.intro ?_ _
      go_wp2
      go_roundw
      case rel => exact ⟨m + 2, out ++ [z], by omega, by go_num, by simp; omega, HO2.out, Hun2.out, HB2.out⟩
      case measure => simp [intOf]; omega
    · have hm1 : ¬ (m : Int) + 1 < (wd.length : Int) := by omega
      have hd1 : decide ((m : Int) + 1 < (wd.length : Int)) = false := decide_eq_false hm1
      have hm2 : (m : Int) ≤ 1000000002 := by omega
      obtain rfl : out = unhexL wd := by
        have := Hun.out
        rw [unP_short _ (by rw [List.length_drop]; omega), List.append_nil] at this
        exact this.symm
      have hcv := run_string_own (P := Tryd.prog) (w := wr) 50 9 5 Tryd.underlying50 Tryd.underlying5 Tryd.underlying9 hown
      have HB := hid hb; clear hb hown hlt hm1 Hun
      have hul : (unhexL wd).length ≤ 1000000000 := Nat.le_trans (unP_len _) (by rw [List.length_drop]; omega)
      have C1 := hid (fun w => hex_any (unhexL wd) w hul)
      clear hul ho
      obtain ⟨o2, ho2⟩ : ∃ o, unhexL wd = o := ⟨_, rfl⟩
      rw [ho2] at C1 hcv
      have Ho2 := hid ho2; clear ho2
      go_wp2_with (go_at_call 22; refine (C1.out _).mono ?_; rintro e w9 ⟨rfl, hb9⟩)
      go_ret2
      exact ⟨by rw [Ho2.out]; rfl, bth HB.out hb9⟩
end Go.Proofs.YtdefipnmjfnpeaaDoor
