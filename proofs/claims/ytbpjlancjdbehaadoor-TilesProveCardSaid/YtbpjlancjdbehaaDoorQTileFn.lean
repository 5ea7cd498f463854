/- tiles.New, Copy, Root; maps.Clone of the tiles' map -/
import Derived.Test.YtbpjlancjdbehaaDoorQAnyOp
import Derived.Test.YtbpjlancjdbehaaDoorQTileAdd
import Derived.Test.YtbpjlancjdbehaaDoorQTileRoot

set_option maxRecDepth 100000
namespace Go.Spec
open Go.RowKit
variable {P : Program} {ops : Array Oper}
theorem YieldsW.load_one {C : World → Prop} {oi : Oper} {a : Act} (hw : Region.wanted oi (yielded ops a.tmps) = true) (ty : TypeId) (x : Operand) (ho : oi.op = .load ty x) (ad : Addr) (hx : a.eval x = .pointer (some ad)) (v : Value) (d : TypeDesc)
    (hc : ∀ w', C w' → w'.cell? ad = some v) (hu : P.underlying ty = some d) (hd : (match d with | .struct _ | .array _ _ => true | _ => false) = false) : YieldsW P ops C oi v a :=
  .inl ⟨hw, fun w' hw' => by
    have hagg : (isAgg ty).run P w' = .ok false w' := by
      unfold isAgg
      rw [Sem.run_bind, run_underlying hu w']
      cases d <;> simp_all
    have hl : (load ad).run P w' = .ok v w' := by
      show (Sem.load Mode.plain ad Sem.pure).run P w' = _
      unfold Sem.run
      simp [hc w' hw', Sem.run, go_sem]
    unfold execOp
    simp only [ho, hx, Instr.loadAt, Instr.sureAddr, Sem.run_bind, Sem.run_pure, Result.andThen_ok, loadVar, hagg, Bool.false_eq_true, if_false, hl]⟩
end Go.Spec
namespace Go.Proofs.YtbpjlancjdbehaaDoor
open Go.RowKit Go.Spec
set_option maxHeartbeats 1000000 in
theorem tclone_any (b n : Nat) (f : Int → Int → Option (List UInt8)) (w : World) (h : TMap w b n f) :
    Calls Tryd.prog 48 #[.map (some b)] w fun e w' => e = .returned (.map (some w.heap.size)) ∧ TMap w' w.heap.size n f ∧ Below w.heap.size w w' := by
  obtain ⟨D, ⟨es, clock, hb, F, hs, hD⟩, h2⟩ := h
  have hq := fun w => run_eql_map_nil_sl (P := Tryd.prog) w 46 _ _ (some b) Tryd.underlying46
  have hf : Tryd.prog.funcs[70]? = some Tryd.f70 := by kernel_rfl
  have HR := hid (And.intro hD (And.intro hs h2))
  clear hD hs h2
  go_enter Tryd.func48, Tryd.ntmps48
  go_wp2
  rw [run_callFunc_extern hf (by kernel_rfl) (by kernel_rfl) (by kernel_rfl) (e := Extern.MapsClone.clone) (by kernel_rfl), run_maps_clone_sl w 46 hb]
  simp only [Result.andThen]
  rw [Oper.upon_value]
  go_wp2
  rw [run_typeAssert_map_sl _ 46 _ _ _ _ Tryd.underlying46]
  simp only [Result.andThen]
  rw [Oper.upon_value]
  go_wp2
  go_ret
  exact ⟨rfl, ⟨D, ⟨es, clock, (MapKept.heap_alloc w _).1, F, HR.out.2.1, HR.out.1⟩, HR.out.2.2⟩, (Below.refl _ w).alloc (Nat.le_refl _) _⟩
set_option maxHeartbeats 1000000 in
theorem tnew_any (w : World) :
    Calls Tryd.prog 21 #[] w fun e w' => e = .returned (.pointer (some ⟨w.heap.size + 1, 0, none⟩)) ∧ TilesAt w' (w.heap.size + 1) w.heap.size [] ∧ Below w.heap.size w w' := by
  have hmm := @run_makeMap Tryd.prog
  have HB : Below w.heap.size w ((w.alloc (.map #[] 0)).alloc (.cells #[.map (some w.heap.size), .int .i64 0] 48)) := ((Below.refl _ w).alloc (Nat.le_refl _) _).alloc (by simp) _
  have hM := TMap.made w
  have hT : TilesAt ((w.alloc (.map #[] 0)).alloc (.cells #[.map (some w.heap.size), .int .i64 0] 48)) (w.heap.size + 1) w.heap.size [] := by
    refine ⟨Blk.new' _ _ _ (by simp), ⟨0, Nat.le_refl _, ?_⟩, by simp, by simp⟩
    refine (hM.later (((Below.refl (w.heap.size + 1) _).alloc (by simp) _).block _ (by omega))).congr fun i j _ _ => ?_
    unfold tileZ tileN
    split
    · rw [if_neg (by
        have : 0 < (j.toNat + 1) * 2 ^ i.toNat := Nat.mul_pos (by omega) (Nat.pow_pos (by omega))
        simp only [List.length_nil]; omega)]
    · rfl
  have HT := hid hT; have HBb := hid HB
  clear hT HB hM
  go_enter Tryd.func21, Tryd.ntmps21
  go_wp2
  go_ret
  exact ⟨rfl, HT.out, HBb.out⟩
/-- the root of the first leaves -/
def trootX (l : List (List UInt8)) (n : Int) : List UInt8 := if 0 ≤ n ∧ n ≤ l.length then rootL (l.take n.toNat) else zero32
theorem trootX_32 {l : List (List UInt8)} (h : ∀ x ∈ l, x.length = 32) (n : Int) : (trootX l n).length = 32 := by
  unfold trootX
  split
  · exact rootL_len _ _ (Nat.le_refl _) (fun x hx => h x (List.mem_of_mem_take hx))
  · rfl
set_option maxHeartbeats 2000000 in
theorem troott_any (g b : Nat) (l : List (List UInt8)) (n : Int) (w : World) (h : TilesAt w g b l) (hG : ShaG w) :
    Calls Tryd.prog 14 #[.pointer (some ⟨g, 0, none⟩), .int .i64 n] w fun e w' => e = .returned (.tuple #[hv (trootX l n), .int .i64 (withE l n)]) ∧ Below w.heap.size w w' := by
  have h32 := trootX_32 h.r32 n
  have hw1 : Below w.heap.size w (w.alloc (.cells (hc zero32) 29)) := (Below.refl _ w).alloc (Nat.le_refl _) _
  have hT := h.later hw1
  have HW := hid (within_any g b l n _ hT)
  have HG := hid (hG.later hw1)
  have hZ : Blk (w.alloc (.cells (hc zero32) 29)) w.heap.size (hc zero32) 29 := Blk.new _ _ _
  have Hs := hid (show (Tryd.prog.info? 29).map (·.size) = some (hc (trootX l n)).size by rw [hc_size, h32]; exact Tryd.sizeHash)
  have Hz := hid (show (hc (trootX l n)).size = (hc zero32).size by rw [hc_size, h32]; rfl)
  have HT := hid hT
  clear h h32 hG hT
  by_cases hn : 0 ≤ n ∧ n ≤ l.length
  · obtain ⟨m, rfl⟩ : ∃ m : Nat, n = m := ⟨n.toNat, by omega⟩
    have hE : withE l (m : Int) = 0 := by unfold withE; rw [if_pos hn]
    have hX : trootX l (m : Int) = rootL (seg l 0 m) := by unfold trootX; rw [if_pos hn]; rfl
    rw [hX] at Hs Hz
    rw [hE] at HW
    rw [hE, hX]
    have HR := hid (troot_any g b l 0 m _ (by omega) (by omega) (lined_zero m) HT.out HG.out)
    generalize rootL (seg l 0 m) = R at *
    clear hX hE hn HT
    go_enter Tryd.func14, Tryd.ntmps14
    go_wp2_with (first
      | (go_at_call 43; refine HW.out.mono ?_; rintro e w1 ⟨rfl, rfl⟩)
      | (go_at_call 44; refine HR.out.mono ?_; rintro e w2 ⟨rfl, hb2⟩)
      | ((with_reducible show wpList _ _ _ ({ dst := _, op := Op.store _ _ _, type := _, pos := _, after := _, guard := _ } :: _) _ _); refine wpList_store_blk rfl 29 _ _ rfl w.heap.size rfl (hc R) rfl _ _ (hZ.later hb2) Hz.out Hs.out (hc_row_one _) ?_))
    refine bodyPost_ret (results_cell2 rfl _ w.heap.size 29 _ (0, 0) _ rfl ((hZ.later hb2).setRow) Tryd.underlying29 rfl Hs.out) rfl ⟨rfl, ?_⟩
    exact (bth hw1 hb2).setRow (by omega) _
  · have hE : withE l n = 82 := by unfold withE; rw [if_neg hn]
    have hX : trootX l n = zero32 := by unfold trootX; rw [if_neg hn]
    rw [hX] at Hs Hz
    rw [hE] at HW
    rw [hE, hX]
    clear hX hE hn HT HG
    go_enter Tryd.func14, Tryd.ntmps14
    go_wp2_with (first
      | (go_at_call 43; refine HW.out.mono ?_; rintro e w1 ⟨rfl, rfl⟩)
      | ((with_reducible show wpList _ _ _ ({ dst := _, op := Op.build _ _, type := _, pos := _, after := _, guard := _ } :: _) _ _); refine wpList_build0 rfl 29 rfl (hv zero32) (Tryd.zeroHash _) ?_)
      | ((with_reducible show wpList _ _ _ ({ dst := _, op := Op.store _ _ _, type := _, pos := _, after := _, guard := _ } :: _) _ _); refine wpList_store_blk rfl 29 _ _ rfl w.heap.size rfl (hc zero32) rfl _ _ hZ rfl Hs.out (hc_row_one _) ?_))
    refine bodyPost_ret (results_cell2 rfl _ w.heap.size 29 _ (0, 0) _ rfl (hZ.setRow) Tryd.underlying29 rfl Hs.out) rfl ⟨rfl, ?_⟩
    exact hw1.setRow (by omega) _
set_option maxHeartbeats 2000000 in
theorem tcopy_any (g b : Nat) (l : List (List UInt8)) (w : World) (h : TilesAt w g b l) :
    Calls Tryd.prog 24 #[.pointer (some ⟨g, 0, none⟩)] w fun e w' => (∃ g' b', e = .returned (.pointer (some ⟨g', 0, none⟩)) ∧ TilesAt w' g' b' l ∧ w.heap.size ≤ g' ∧ w.heap.size ≤ b') ∧ Below w.heap.size w w' := by
  have HN := hid (none_any g b l w h)
  have HT := hid h
  obtain ⟨m, hm0, hm⟩ := h.map
  have Hm0 := hid hm0; have HM := hid hm
  have Hbk := hid h.blk
  clear h hm0 hm
  go_enter Tryd.func24, Tryd.ntmps24
  go_wp2_with (go_at_call 41; refine HN.out.mono ?_; rintro e w1 ⟨rfl, rfl⟩)
  refine wp_region_anyC (by kernel_rfl) ?_
  intro w5 he5 hb5
  have Hc5 := hid hb5
  clear he5
  show wpAnyC _ _ _ _ _ 12 (Array.replicate 12 false) _ _
  refine wpAnyC_take (i := 0) (v := .pointer (some ⟨g, 0, none⟩)) rfl (by kernel_rfl) (by kernel_rfl) (by kernel_rfl) (fun _ _ _ h => h) (Or.inl ⟨by rfl, ?_⟩) ?_
  · intro w _
    go_simp
    try exact IntWalk.i64_in _ (by omega)
    try omega
  (first | dsimp only [List.getElem_toArray, List.getElem_cons_succ, List.getElem_cons_zero] | dsimp (maxSteps := 10000000) only [List.getElem_toArray, List.getElem_cons_succ, List.getElem_cons_zero] | skip); (first | go_frame | simp (maxSteps := 10000000) only [Act.put, List.setIfInBounds_toArray, List.set_cons_succ, List.set_cons_zero] | skip)
  refine wpAnyC_take (i := 1) (v := .pointer (some ⟨g, 0, none⟩)) rfl (by kernel_rfl) (by kernel_rfl) (by kernel_rfl) (fun _ _ _ h => h) (Or.inl ⟨by rfl, ?_⟩) ?_
  · intro w _
    go_simp
    try exact IntWalk.i64_in _ (by omega)
    try omega
  (first | dsimp only [List.getElem_toArray, List.getElem_cons_succ, List.getElem_cons_zero] | dsimp (maxSteps := 10000000) only [List.getElem_toArray, List.getElem_cons_succ, List.getElem_cons_zero] | skip); (first | go_frame | simp (maxSteps := 10000000) only [Act.put, List.setIfInBounds_toArray, List.set_cons_succ, List.set_cons_zero] | skip)
  refine wpAnyC_take (i := 2) (v := .pointer (some ⟨g, 0, none⟩)) rfl (by kernel_rfl) (by kernel_rfl) (by kernel_rfl) (fun _ _ _ h => h) (Or.inl ⟨by rfl, ?_⟩) ?_
  · intro w _
    go_simp
    try exact IntWalk.i64_in _ (by omega)
    try omega
  (first | dsimp only [List.getElem_toArray, List.getElem_cons_succ, List.getElem_cons_zero] | dsimp (maxSteps := 10000000) only [List.getElem_toArray, List.getElem_cons_succ, List.getElem_cons_zero] | skip); (first | go_frame | simp (maxSteps := 10000000) only [Act.put, List.setIfInBounds_toArray, List.set_cons_succ, List.set_cons_zero] | skip)
  refine wpAnyC_take (i := 3) (v := .map (some b)) rfl (by kernel_rfl) (by kernel_rfl) (by kernel_rfl) (fun _ _ _ h => h) (YieldsW.load_one (by rfl) 46 _ rfl ⟨g, 0, none⟩ rfl _ _ (fun w' hw' => (HT.out.later hw').c0) Tryd.underlying46 rfl) ?_
  (first | dsimp only [List.getElem_toArray, List.getElem_cons_succ, List.getElem_cons_zero] | dsimp (maxSteps := 10000000) only [List.getElem_toArray, List.getElem_cons_succ, List.getElem_cons_zero] | skip); (first | go_frame | simp (maxSteps := 10000000) only [Act.put, List.setIfInBounds_toArray, List.set_cons_succ, List.set_cons_zero] | skip)
  refine wpAnyC_take (i := 5) (v := .pointer (some ⟨g, 0, none⟩)) rfl (by kernel_rfl) (by kernel_rfl) (by kernel_rfl) (fun _ _ _ h => h) (Or.inl ⟨by rfl, ?_⟩) ?_
  · intro w _
    go_simp
    try exact IntWalk.i64_in _ (by omega)
    try omega
  (first | dsimp only [List.getElem_toArray, List.getElem_cons_succ, List.getElem_cons_zero] | dsimp (maxSteps := 10000000) only [List.getElem_toArray, List.getElem_cons_succ, List.getElem_cons_zero] | skip); (first | go_frame | simp (maxSteps := 10000000) only [Act.put, List.setIfInBounds_toArray, List.set_cons_succ, List.set_cons_zero] | skip)
  refine wpAnyC_take (i := 6) (v := .pointer (some ⟨g, 0, none⟩)) rfl (by kernel_rfl) (by kernel_rfl) (by kernel_rfl) (fun _ _ _ h => h) (Or.inl ⟨by rfl, ?_⟩) ?_
  · intro w _
    go_simp
    try exact IntWalk.i64_in _ (by omega)
    try omega
  (first | dsimp only [List.getElem_toArray, List.getElem_cons_succ, List.getElem_cons_zero] | dsimp (maxSteps := 10000000) only [List.getElem_toArray, List.getElem_cons_succ, List.getElem_cons_zero] | skip); (first | go_frame | simp (maxSteps := 10000000) only [Act.put, List.setIfInBounds_toArray, List.set_cons_succ, List.set_cons_zero] | skip)
  refine wpAnyC_take (i := 7) (v := .pointer (some ⟨g, 1, none⟩)) rfl (by kernel_rfl) (by kernel_rfl) (by kernel_rfl) (fun _ _ _ h => h) (Or.inl ⟨by rfl, ?_⟩) ?_
  · intro w _
    go_simp
    try exact IntWalk.i64_in _ (by omega)
    try omega
  (first | dsimp only [List.getElem_toArray, List.getElem_cons_succ, List.getElem_cons_zero] | dsimp (maxSteps := 10000000) only [List.getElem_toArray, List.getElem_cons_succ, List.getElem_cons_zero] | skip); (first | go_frame | simp (maxSteps := 10000000) only [Act.put, List.setIfInBounds_toArray, List.set_cons_succ, List.set_cons_zero] | skip)
  refine wpAnyC_take (i := 8) (v := .int .i64 (l.length : Int)) rfl (by kernel_rfl) (by kernel_rfl) (by kernel_rfl) (fun _ _ _ h => h) (YieldsW.load_one (by rfl) 3 _ rfl ⟨g, 1, none⟩ rfl _ _ (fun w' hw' => (HT.out.later hw').c1) Tryd.underlying3 rfl) ?_
  (first | dsimp only [List.getElem_toArray, List.getElem_cons_succ, List.getElem_cons_zero] | dsimp (maxSteps := 10000000) only [List.getElem_toArray, List.getElem_cons_succ, List.getElem_cons_zero] | skip); (first | go_frame | simp (maxSteps := 10000000) only [Act.put, List.setIfInBounds_toArray, List.set_cons_succ, List.set_cons_zero] | skip)
  refine wpAnyC_forced (i := 4) (by kernel_rfl) rfl (Hc5.out) ?_
  (first | dsimp only [List.getElem_toArray, List.getElem_cons_succ, List.getElem_cons_zero] | dsimp (maxSteps := 10000000) only [List.getElem_toArray, List.getElem_cons_succ, List.getElem_cons_zero] | skip); (first | go_frame | simp (maxSteps := 10000000) only [Act.put, List.setIfInBounds_toArray, List.set_cons_succ, List.set_cons_zero] | skip)
  go_wp2_with (go_at_call 48; refine (tclone_any b m _ _ (HM.out.later (hb5.block b HT.out.lt.2))).mono ?_; rintro e w6 ⟨rfl, hm6, hb6⟩)
  show wpAnyC _ _ _ _ _ _ _ _ _
  have Hc6 := hid (bth Hc5.out hb6)
  refine wpAnyC_forced (i := 9) (by kernel_rfl) rfl (Hc6.out) ?_
  (first | dsimp only [List.getElem_toArray, List.getElem_cons_succ, List.getElem_cons_zero] | dsimp (maxSteps := 10000000) only [List.getElem_toArray, List.getElem_cons_succ, List.getElem_cons_zero] | skip); (first | go_frame | simp (maxSteps := 10000000) only [Act.put, List.setIfInBounds_toArray, List.set_cons_succ, List.set_cons_zero] | skip)
  go_wp2
  show wpAnyC _ _ _ _ _ _ _ _ _
  refine wpAnyC_forced (i := 10) (by kernel_rfl) rfl (Hc6.out) ?_
  (first | dsimp only [List.getElem_toArray, List.getElem_cons_succ, List.getElem_cons_zero] | dsimp (maxSteps := 10000000) only [List.getElem_toArray, List.getElem_cons_succ, List.getElem_cons_zero] | skip); (first | go_frame | simp (maxSteps := 10000000) only [Act.put, List.setIfInBounds_toArray, List.set_cons_succ, List.set_cons_zero] | skip)
  go_wp2
  have hC7 : Below w.heap.size w (w6.alloc (.cells #[.map (some w5.heap.size), .int .i64 (l.length : Int)] 48)) := Hc6.out.alloc Hc6.out.size _
  have hT7 : TilesAt (w6.alloc (.cells #[.map (some w5.heap.size), .int .i64 (l.length : Int)] 48)) w6.heap.size w5.heap.size l :=
    ⟨Blk.new _ _ _, ⟨m, Hm0.out, hm6.later (((Below.refl w6.heap.size w6).alloc (Nat.le_refl _) _).block _ hm6.lt)⟩, HT.out.r32, HT.out.len⟩
  have HC7 := hid hC7; have HT7 := hid hT7
  have hs5 : w.heap.size ≤ w5.heap.size := hb5.size
  have hs6 : w.heap.size ≤ w6.heap.size := Hc6.out.size
  clear hC7 hT7
  show wpAnyC _ _ _ _ _ _ _ _ _
  refine wpAnyC_forced (i := 11) (by kernel_rfl) rfl (HC7.out) ?_
  (first | dsimp only [List.getElem_toArray, List.getElem_cons_succ, List.getElem_cons_zero] | dsimp (maxSteps := 10000000) only [List.getElem_toArray, List.getElem_cons_succ, List.getElem_cons_zero] | skip); (first | go_frame | simp (maxSteps := 10000000) only [Act.put, List.setIfInBounds_toArray, List.set_cons_succ, List.set_cons_zero] | skip)
  go_wp2
  show wpAnyC _ _ _ _ _ _ _ _ _
  refine wpAnyC_done (by kernel_rfl) HC7.out ?_ _
  (first | dsimp only [List.getElem_toArray, List.getElem_cons_succ, List.getElem_cons_zero] | dsimp (maxSteps := 10000000) only [List.getElem_toArray, List.getElem_cons_succ, List.getElem_cons_zero] | skip); (first | go_frame | simp (maxSteps := 10000000) only [Act.put, List.setIfInBounds_toArray, List.set_cons_succ, List.set_cons_zero] | skip)
  go_wp2
  go_ret
  exact ⟨⟨_, _, rfl, HT7.out, hs6, hs5⟩, HC7.out⟩
end Go.Proofs.YtbpjlancjdbehaaDoor
