/- proofs.Check of a proof that holds, the long way -/
import Derived.Test.YtbpjlancjdbehaaDoorQPCheck
import Derived.Maps.RangeWalk
set_option maxRecDepth 100000
namespace Go.Proofs.YtbpjlancjdbehaaDoor
open Go.RowKit Go.Spec
theorem Blk.keepD {w' : World} {g : Nat} {x : List UInt8} (h : Blk w' g (hc x) 29) : ∀ j z, (x.map bcell)[j]? = some z → w'.cell? ((⟨g, 0, none⟩ : Addr).add j) = some z := fun j z hz => h.cells j z (by rw [hc_toList]; exact hz)
set_option maxHeartbeats 4000000 in
theorem pcheck_mid (m n : Nat) (O N H : List UInt8) (p rest : List (List UInt8)) (v : Value) (w : World) (hm : 0 < m) (hmn : m < n) (hn : n ≤ 4096) (hO : O.length = 32) (hN : N.length = 32)
    (hp : p = if conI m n = 0 then rest else H :: rest) (hl : rest.length = (conD m n).length) (hcl : climb2 (conD m n) rest H H = (O, N)) (hh : conI m n = 0 → H = O) (hS : SlAt w 32 v (hcs p)) (hr32 : ∀ x ∈ H :: rest, x.length = 32) (hG : ShaG w) :
    Calls Tryd.prog 27 #[.int .i64 (m : Int), .int .i64 (n : Int), hv O, hv N, v] w fun e w' => e = .returned (.int .i64 0) ∧ Below w.heap.size w w' := by
  have HC := hid (Ck.start w O N p v hS)
  obtain ⟨a0, cap0, rfl, _⟩ := hS.formH
  have HG := hid hG
  generalize hgen : ((w.alloc (.cells (hc O) 29)).alloc (.cells (hc N) 29)).alloc (.cells #[.slice a0 p.length cap0] 22) = w0 at HC
  have Hgen := hid hgen
  have d1 : decide ((n : Int) < 0) = false := by simp
  have d2 : decide ((4096 : Int) < (n : Int)) = false := by simp; omega
  have d3 : decide ((m : Int) < 0) = false := by simp
  have d4 : decide ((n : Int) < (m : Int)) = false := by simp; omega
  have d4' : decide (n < m) = false := by simp; omega
  have d5 : ((m : Int) == 0) = false := beq_eq_false_iff_ne.mpr (by omega)
  have d6 : ((m : Int) == (n : Int)) = false := beq_eq_false_iff_ne.mpr (by omega)
  have d6' : (m == n) = false := beq_eq_false_iff_ne.mpr (by omega)
  obtain ⟨i0, hi0⟩ : ∃ i0, m - 1 = i0 := ⟨_, rfl⟩
  obtain ⟨n0, hn0⟩ : ∃ n0, n - 1 = n0 := ⟨_, rfl⟩
  have e1 : (m : Int) - 1 = (i0 : Int) := by omega
  have e2 : (n : Int) - 1 = (n0 : Int) := by omega
  have hin : i0 < n0 := by omega
  have hn4 : n0 ≤ 4095 := by omega
  have hsl := strip_le i0 i0 n0 (Nat.le_refl _) (Nat.le_of_lt hin)
  unfold conI at hp hh
  unfold conD at hl hcl
  rw [hi0, hn0] at hp hh hl hcl
  obtain ⟨I, hI⟩ : ∃ I, (stripN i0 n0).1 = I := ⟨_, rfl⟩
  obtain ⟨M, hM⟩ : ∃ M, (stripN i0 n0).2 = M := ⟨_, rfl⟩
  rw [hI, hM] at hsl hl hcl
  rw [hI] at hp hh
  have hst : stripN i0 n0 = (I, M) := by rw [← hI, ← hM]
  obtain ⟨_, hM4, _, hIM⟩ := hsl
  have Hsl := hid (show I < M ∧ M ≤ 4095 from ⟨hIM hin, by omega⟩)
  have Hst := hid hst; have Hp := hid hp; have Hl := hid hl; have Hcl := hid hcl; have Hh := hid hh; have H32 := hid hr32; have HO := hid hO; have HN := hid hN
  have SO := hid (show (Tryd.prog.info? 29).map (·.size) = some O.length by rw [hO]; exact Tryd.sizeHash)
  have SN := hid (show (Tryd.prog.info? 29).map (·.size) = some N.length by rw [hN]; exact Tryd.sizeHash)
  have SZ := hid (show (Tryd.prog.info? 29).map (·.size) = some (hc zero32).size by kernel_rfl)
  have SH := hid (fun (x : List UInt8) (hx : x.length = 32) => show (Tryd.prog.info? 29).map (·.size) = some (hc x).size by rw [hc_size, hx]; exact Tryd.sizeHash)
  have SL := hid (fun (x : List UInt8) (hx : x.length = 32) => show (Tryd.prog.info? 29).map (·.size) = some x.length by rw [hx]; exact Tryd.sizeHash)
  have hs3 := Tryd.sizeHash
  have hs5 := Tryd.sizeU8
  have hge := Tryd.guardHash3
  clear hS hgen hst hI hM hp hl hcl hh hr32 hO hN hG hIM hM4 hm hmn hn hi0 hn0
  go_enter Tryd.func27, Tryd.ntmps27
  go_upto_region 1 with fail
  show Code.wp _ _ _ _ (((w.alloc (.cells (hc O) 29)).alloc (.cells (hc N) 29)).alloc (.cells #[.slice a0 p.length cap0] 22))
  rw [Hgen.out]
  go_wp2_with fail
  go_loop [11, 12] (fun si sm => ∃ i2 m2 : Nat, stripN i2 m2 = (I, M) ∧ i2 < m2 ∧ m2 ≤ 4095 ∧ si = .int .i64 (i2 : Int) ∧ sm = .int .i64 (m2 : Int)) (fun si _ => (intOf si).toNat)
  case atStart => exact ⟨i0, n0, Hst.out, hin, hn4, by go_num, by go_num⟩
  case round =>
    obtain ⟨i2, m2, hst, him, hm4, rfl, rfl⟩ := hrel
    clear Hst hin hn4
    by_cases ho : i2 % 2 = 1
    · have hodd : ((i2 : Int) % 2 == 1) = true := by simp; omega
      obtain ⟨q, hq⟩ : ∃ q, i2 / 2 = q := ⟨_, rfl⟩
      obtain ⟨q2, hq2⟩ : ∃ q2, m2 / 2 = q2 := ⟨_, rfl⟩
      have f1 : (i2 : Int) / 2 = (q : Int) := by omega
      have f2 : (m2 : Int) / 2 = (q2 : Int) := by omega
      have hq3 : q < q2 := by omega
      have hq4 : q2 ≤ 4095 := by omega
      have hq5 : q < i2 := by omega
      rw [strip_odd i2 m2 ho, hq, hq2] at hst
      have Hst := hid hst
      clear ho hq hq2 hst
      go_wp2
      go_round
      case rel => exact ⟨q, q2, Hst.out, hq3, hq4, by go_num, by go_num⟩
      case measure => simp [intOf]; omega
    · have hodd : ((i2 : Int) % 2 == 1) = false := by simp; omega
      rw [strip_even i2 m2 (by omega)] at hst
      injection hst with h1 h2
      subst h1; subst h2
      clear ho
      go_upto_region 11 with fail
      go_cut [14, 15] (fun pa pb wx => ∃ ga gb, pa = .pointer (some ⟨ga, 0, none⟩) ∧ pb = .pointer (some ⟨gb, 0, none⟩) ∧ Ck w O N p wx ∧ Ab w ga gb O O wx)
      case first =>
        have KO := hid (show ∀ w', Below w0.heap.size w0 w' → ∀ j z, (O.map bcell)[j]? = some z → w'.cell? ((⟨w.heap.size, 0, none⟩ : Addr).add j) = some z from fun w' hw' => Blk.keepD (HC.out.bo.later hw'))
        have hwl : w.heap.size + 3 ≤ w0.heap.size := by
          obtain ⟨v', hp, _⟩ := HC.out.pr
          have := hp.lt; omega
        have Hwl := hid hwl
        clear hwl
        refine wp_region_anyC (by kernel_rfl) ?_
        intro x0 he0 hb0
        have Hc0 := hid hb0
        have C0 := hid (HC.out.later hb0)
        have Hx0 := hid (show w.heap.size + 3 ≤ x0.heap.size from Nat.le_trans Hwl.out hb0.size)
        clear he0 hb0
        show wpAnyC _ _ _ _ _ 6 (Array.replicate 6 false) _ _
        refine wpAnyC_take (i := 0) (v := hv O) rfl (by kernel_rfl) (by kernel_rfl) (by kernel_rfl) (fun _ _ _ h => h) (YieldsW.load_hc (by kernel_rfl) 29 _ rfl ⟨w.heap.size, 0, none⟩ (by kernel_rfl) O _ KO.out Tryd.underlying29 rfl SO.out) ?_
        (first | dsimp only [List.getElem_toArray, List.getElem_cons_succ, List.getElem_cons_zero] | dsimp (maxSteps := 10000000) only [List.getElem_toArray, List.getElem_cons_succ, List.getElem_cons_zero] | skip); (first | go_frame | simp (maxSteps := 10000000) only [Act.put, List.setIfInBounds_toArray, List.set_cons_succ, List.set_cons_zero] | skip)
        refine wpAnyC_take (i := 1) (v := hv O) rfl (by kernel_rfl) (by kernel_rfl) (by kernel_rfl) (fun _ _ _ h => h) (YieldsW.load_hc (by kernel_rfl) 29 _ rfl ⟨w.heap.size, 0, none⟩ (by kernel_rfl) O _ KO.out Tryd.underlying29 rfl SO.out) ?_
        (first | dsimp only [List.getElem_toArray, List.getElem_cons_succ, List.getElem_cons_zero] | dsimp (maxSteps := 10000000) only [List.getElem_toArray, List.getElem_cons_succ, List.getElem_cons_zero] | skip); (first | go_frame | simp (maxSteps := 10000000) only [Act.put, List.setIfInBounds_toArray, List.set_cons_succ, List.set_cons_zero] | skip)
        refine wpAnyC_all (rs := [2, 3]) (by kernel_rfl) (by simp) Hc0.out ?_
        intro z hz
        rcases (show z = 2 ∨ z = 3 by simpa using hz) with rfl | rfl
        · refine wpOp_list rfl ?_
          (first | dsimp only [List.getElem_toArray, List.getElem_cons_succ, List.getElem_cons_zero] | dsimp (maxSteps := 10000000) only [List.getElem_toArray, List.getElem_cons_succ, List.getElem_cons_zero] | skip); (first | go_frame | simp (maxSteps := 10000000) only [Act.put, List.setIfInBounds_toArray, List.set_cons_succ, List.set_cons_zero] | skip)
          go_wp2_with fail
          show wpAnyC _ _ _ _ _ _ _ _ (x0.alloc (.cells (hc zero32) 29))
          (first | dsimp only [List.getElem_toArray, List.getElem_cons_succ, List.getElem_cons_zero] | dsimp (maxSteps := 10000000) only [List.getElem_toArray, List.getElem_cons_succ, List.getElem_cons_zero] | skip); (first | go_frame | simp (maxSteps := 10000000) only [Act.put, List.setIfInBounds_toArray, List.set_cons_succ, List.set_cons_zero] | skip)
          have Hc1 := hid (Hc0.out.alloc Hc0.out.size (.cells (hc zero32) 29))
          have C1 := hid (C0.out.later ((Below.refl _ x0).alloc (Nat.le_refl _) (.cells (hc zero32) 29)))
          have HA1 := hid (Blk.new x0 (hc zero32) 29)
          have Hs1 := hid (show x0.heap.size < (x0.alloc (.cells (hc zero32) 29)).heap.size by simp)
          generalize hgen : x0.alloc (.cells (hc zero32) 29) = x1 at *
          clear hgen
          refine wpAnyC_forced (i := 3) (by kernel_rfl) rfl (Hc1.out) ?_
          (first | dsimp only [List.getElem_toArray, List.getElem_cons_succ, List.getElem_cons_zero] | dsimp (maxSteps := 10000000) only [List.getElem_toArray, List.getElem_cons_succ, List.getElem_cons_zero] | skip); (first | go_frame | simp (maxSteps := 10000000) only [Act.put, List.setIfInBounds_toArray, List.set_cons_succ, List.set_cons_zero] | skip)
          go_wp2_with fail
          show wpAnyC _ _ _ _ _ _ _ _ (x1.alloc (.cells (hc zero32) 29))
          (first | dsimp only [List.getElem_toArray, List.getElem_cons_succ, List.getElem_cons_zero] | dsimp (maxSteps := 10000000) only [List.getElem_toArray, List.getElem_cons_succ, List.getElem_cons_zero] | skip); (first | go_frame | simp (maxSteps := 10000000) only [Act.put, List.setIfInBounds_toArray, List.set_cons_succ, List.set_cons_zero] | skip)
          have Hc2 := hid (Hc1.out.alloc Hc1.out.size (.cells (hc zero32) 29))
          have C2 := hid (C1.out.later ((Below.refl _ x1).alloc (Nat.le_refl _) (.cells (hc zero32) 29)))
          have HA2 := hid (HA1.out.alloc (.cells (hc zero32) 29))
          have HB2 := hid (Blk.new x1 (hc zero32) 29)
          generalize hgen : x1.alloc (.cells (hc zero32) 29) = x2 at *
          clear hgen
          have hne : x0.heap.size ≠ x1.heap.size := by have := Hs1.out; omega
          have Hx1 := hid (show w.heap.size + 3 ≤ x1.heap.size from by have := Hx0.out; have := Hs1.out; omega)
          have Hs1' := hid (show w0.heap.size ≤ x0.heap.size ∧ w0.heap.size ≤ x1.heap.size from ⟨Hc0.out.size, Hc1.out.size⟩)
          refine wpAnyC_forced (i := 4) (by kernel_rfl) rfl (Hc2.out) ?_
          (first | dsimp only [List.getElem_toArray, List.getElem_cons_succ, List.getElem_cons_zero] | dsimp (maxSteps := 10000000) only [List.getElem_toArray, List.getElem_cons_succ, List.getElem_cons_zero] | skip); (first | go_frame | simp (maxSteps := 10000000) only [Act.put, List.setIfInBounds_toArray, List.set_cons_succ, List.set_cons_zero] | skip)
          refine wpList_store_blk rfl 29 _ _ rfl (x0.heap.size) rfl (hc O) rfl _ _ HA2.out (by rw [hc_size, HO.out]; rfl) (SH.out O HO.out) (hc_row_one _) ?_
          refine wpList_nil ?_
          show wpAnyC _ _ _ _ _ _ _ _ _
          (first | dsimp only [List.getElem_toArray, List.getElem_cons_succ, List.getElem_cons_zero] | dsimp (maxSteps := 10000000) only [List.getElem_toArray, List.getElem_cons_succ, List.getElem_cons_zero] | skip); (first | go_frame | simp (maxSteps := 10000000) only [Act.put, List.setIfInBounds_toArray, List.set_cons_succ, List.set_cons_zero] | skip)
          have Hc3 := hid (Hc2.out.setRow (g := x0.heap.size) (by have := Hs1'.out; omega) (hc O))
          have HB3 := hid (HB2.out.setRow_ne (cs' := hc O) hne.symm)
          have HA3 := hid (HA2.out.setRow (cs' := hc O))
          refine wpAnyC_forced (i := 5) (by kernel_rfl) rfl (Hc3.out) ?_
          (first | dsimp only [List.getElem_toArray, List.getElem_cons_succ, List.getElem_cons_zero] | dsimp (maxSteps := 10000000) only [List.getElem_toArray, List.getElem_cons_succ, List.getElem_cons_zero] | skip); (first | go_frame | simp (maxSteps := 10000000) only [Act.put, List.setIfInBounds_toArray, List.set_cons_succ, List.set_cons_zero] | skip)
          refine wpList_store_blk rfl 29 _ _ rfl (x1.heap.size) rfl (hc O) rfl _ _ HB3.out (by rw [hc_size, HO.out]; rfl) (SH.out O HO.out) (hc_row_one _) ?_
          refine wpList_nil ?_
          show wpAnyC _ _ _ _ _ _ _ _ _
          (first | dsimp only [List.getElem_toArray, List.getElem_cons_succ, List.getElem_cons_zero] | dsimp (maxSteps := 10000000) only [List.getElem_toArray, List.getElem_cons_succ, List.getElem_cons_zero] | skip); (first | go_frame | simp (maxSteps := 10000000) only [Act.put, List.setIfInBounds_toArray, List.set_cons_succ, List.set_cons_zero] | skip)
          have Hc4 := hid (Hc3.out.setRow (g := x1.heap.size) (by have := Hs1'.out; omega) (hc O))
          refine wpAnyC_done (by kernel_rfl) Hc4.out ?_ _
          go_wp2_with fail
          go_meet
          exact ⟨_, _, rfl, rfl, (C2.out.set (by have := Hx0.out; have := Hx1.out; omega) _).set (by have := Hx0.out; have := Hx1.out; omega) _, hne, by have := Hx0.out; have := Hx1.out; omega, by have := Hx0.out; have := Hx1.out; omega, HA3.out.setRow_ne hne, HB3.out.setRow⟩
        · refine wpOp_list rfl ?_
          (first | dsimp only [List.getElem_toArray, List.getElem_cons_succ, List.getElem_cons_zero] | dsimp (maxSteps := 10000000) only [List.getElem_toArray, List.getElem_cons_succ, List.getElem_cons_zero] | skip); (first | go_frame | simp (maxSteps := 10000000) only [Act.put, List.setIfInBounds_toArray, List.set_cons_succ, List.set_cons_zero] | skip)
          go_wp2_with fail
          show wpAnyC _ _ _ _ _ _ _ _ (x0.alloc (.cells (hc zero32) 29))
          (first | dsimp only [List.getElem_toArray, List.getElem_cons_succ, List.getElem_cons_zero] | dsimp (maxSteps := 10000000) only [List.getElem_toArray, List.getElem_cons_succ, List.getElem_cons_zero] | skip); (first | go_frame | simp (maxSteps := 10000000) only [Act.put, List.setIfInBounds_toArray, List.set_cons_succ, List.set_cons_zero] | skip)
          have Hc1 := hid (Hc0.out.alloc Hc0.out.size (.cells (hc zero32) 29))
          have C1 := hid (C0.out.later ((Below.refl _ x0).alloc (Nat.le_refl _) (.cells (hc zero32) 29)))
          have HB1 := hid (Blk.new x0 (hc zero32) 29)
          have Hs1 := hid (show x0.heap.size < (x0.alloc (.cells (hc zero32) 29)).heap.size by simp)
          generalize hgen : x0.alloc (.cells (hc zero32) 29) = x1 at *
          clear hgen
          refine wpAnyC_forced (i := 2) (by kernel_rfl) rfl (Hc1.out) ?_
          (first | dsimp only [List.getElem_toArray, List.getElem_cons_succ, List.getElem_cons_zero] | dsimp (maxSteps := 10000000) only [List.getElem_toArray, List.getElem_cons_succ, List.getElem_cons_zero] | skip); (first | go_frame | simp (maxSteps := 10000000) only [Act.put, List.setIfInBounds_toArray, List.set_cons_succ, List.set_cons_zero] | skip)
          go_wp2_with fail
          show wpAnyC _ _ _ _ _ _ _ _ (x1.alloc (.cells (hc zero32) 29))
          (first | dsimp only [List.getElem_toArray, List.getElem_cons_succ, List.getElem_cons_zero] | dsimp (maxSteps := 10000000) only [List.getElem_toArray, List.getElem_cons_succ, List.getElem_cons_zero] | skip); (first | go_frame | simp (maxSteps := 10000000) only [Act.put, List.setIfInBounds_toArray, List.set_cons_succ, List.set_cons_zero] | skip)
          have Hc2 := hid (Hc1.out.alloc Hc1.out.size (.cells (hc zero32) 29))
          have C2 := hid (C1.out.later ((Below.refl _ x1).alloc (Nat.le_refl _) (.cells (hc zero32) 29)))
          have HB2 := hid (HB1.out.alloc (.cells (hc zero32) 29))
          have HA2 := hid (Blk.new x1 (hc zero32) 29)
          generalize hgen : x1.alloc (.cells (hc zero32) 29) = x2 at *
          clear hgen
          have hne : x1.heap.size ≠ x0.heap.size := by have := Hs1.out; omega
          have Hx1 := hid (show w.heap.size + 3 ≤ x1.heap.size from by have := Hx0.out; have := Hs1.out; omega)
          have Hs1' := hid (show w0.heap.size ≤ x0.heap.size ∧ w0.heap.size ≤ x1.heap.size from ⟨Hc0.out.size, Hc1.out.size⟩)
          refine wpAnyC_forced (i := 4) (by kernel_rfl) rfl (Hc2.out) ?_
          (first | dsimp only [List.getElem_toArray, List.getElem_cons_succ, List.getElem_cons_zero] | dsimp (maxSteps := 10000000) only [List.getElem_toArray, List.getElem_cons_succ, List.getElem_cons_zero] | skip); (first | go_frame | simp (maxSteps := 10000000) only [Act.put, List.setIfInBounds_toArray, List.set_cons_succ, List.set_cons_zero] | skip)
          refine wpList_store_blk rfl 29 _ _ rfl (x1.heap.size) rfl (hc O) rfl _ _ HA2.out (by rw [hc_size, HO.out]; rfl) (SH.out O HO.out) (hc_row_one _) ?_
          refine wpList_nil ?_
          show wpAnyC _ _ _ _ _ _ _ _ _
          (first | dsimp only [List.getElem_toArray, List.getElem_cons_succ, List.getElem_cons_zero] | dsimp (maxSteps := 10000000) only [List.getElem_toArray, List.getElem_cons_succ, List.getElem_cons_zero] | skip); (first | go_frame | simp (maxSteps := 10000000) only [Act.put, List.setIfInBounds_toArray, List.set_cons_succ, List.set_cons_zero] | skip)
          have Hc3 := hid (Hc2.out.setRow (g := x1.heap.size) (by have := Hs1'.out; omega) (hc O))
          have HB3 := hid (HB2.out.setRow_ne (cs' := hc O) hne.symm)
          have HA3 := hid (HA2.out.setRow (cs' := hc O))
          refine wpAnyC_forced (i := 5) (by kernel_rfl) rfl (Hc3.out) ?_
          (first | dsimp only [List.getElem_toArray, List.getElem_cons_succ, List.getElem_cons_zero] | dsimp (maxSteps := 10000000) only [List.getElem_toArray, List.getElem_cons_succ, List.getElem_cons_zero] | skip); (first | go_frame | simp (maxSteps := 10000000) only [Act.put, List.setIfInBounds_toArray, List.set_cons_succ, List.set_cons_zero] | skip)
          refine wpList_store_blk rfl 29 _ _ rfl (x0.heap.size) rfl (hc O) rfl _ _ HB3.out (by rw [hc_size, HO.out]; rfl) (SH.out O HO.out) (hc_row_one _) ?_
          refine wpList_nil ?_
          show wpAnyC _ _ _ _ _ _ _ _ _
          (first | dsimp only [List.getElem_toArray, List.getElem_cons_succ, List.getElem_cons_zero] | dsimp (maxSteps := 10000000) only [List.getElem_toArray, List.getElem_cons_succ, List.getElem_cons_zero] | skip); (first | go_frame | simp (maxSteps := 10000000) only [Act.put, List.setIfInBounds_toArray, List.set_cons_succ, List.set_cons_zero] | skip)
          have Hc4 := hid (Hc3.out.setRow (g := x0.heap.size) (by have := Hs1'.out; omega) (hc O))
          refine wpAnyC_done (by kernel_rfl) Hc4.out ?_ _
          go_wp2_with fail
          go_meet
          exact ⟨_, _, rfl, rfl, (C2.out.set (by have := Hx0.out; have := Hx1.out; omega) _).set (by have := Hx0.out; have := Hx1.out; omega) _, hne, by have := Hx0.out; have := Hx1.out; omega, by have := Hx0.out; have := Hx1.out; omega, HA3.out.setRow_ne hne, HB3.out.setRow⟩
      case rest =>
        obtain ⟨ga, gb, rfl, rfl, hck, hab⟩ := hcut
        have Hck := hid hck; have Hab := hid hab
        clear hck hab HC Hgen
        go_upto_if 85 with fail
        go_cut [] (fun wx => Ck w O N rest wx ∧ Ab w ga gb H H wx)
        case first =>
          by_cases hz : i2 = 0
          · have z1 : decide ((0 : Int) < (i2 : Int)) = false := by simp; omega
            have z2 : decide (0 < i2) = false := by simp; omega
            have z3 : ¬ (0 < i2) := by omega
            have hpr := Hp.out
            rw [if_pos hz] at hpr
            have hHO := Hh.out hz
            have Hfin := hid (show Ck w O N rest wc ∧ Ab w ga gb H H wc from ⟨hpr ▸ Hck.out, hHO ▸ Hab.out⟩)
            clear hz hpr hHO
            go_wp2_with fail
            go_meet
            exact Hfin.out
          · have z1 : decide ((0 : Int) < (i2 : Int)) = true := by simp; omega
            have z2 : decide (0 < i2) = true := by simp; omega
            have z3 : 0 < i2 := by omega
            have hpr := Hp.out
            rw [if_neg hz] at hpr
            have Hck2 := hid (show Ck w O N (H :: rest) wc from hpr ▸ Hck.out)
            obtain ⟨v', hb, hs⟩ := Hck2.out.pr
            have NX := hid (pnext_any (w.heap.size + 2) v' H rest w wc hs Hck2.out.be hb)
            have HH := hid (H32.out H (by simp))
            have SHl := hid (SL.out H HH.out)
            clear hz hpr hb hs
            go_upto_region 16 with (first
              | (go_at_call 52; refine NX.out.mono ?_; rintro e w2 ⟨rfl, hp2, ht2⟩)
              | ((with_reducible show wpList _ _ _ ({ dst := _, op := Op.store _ _ _, type := _, pos := _, after := _, guard := _ } :: _) _ _); refine wpList_store_new rfl 29 _ _ rfl rfl H rfl (hc zero32) 29 (by rw [HH.out]; rfl) SHl.out ?_))
            show Code.wp _ _ _ _ (w2.alloc (.cells (hc H) 29))
            have hbe := (Below.refl _ w2).alloc (Nat.le_refl _) (.cells (hc H) 29)
            have C2 := hid ((Hck2.out.next ht2 hp2).later hbe)
            have A2 := hid ((Hab.out.next ht2).later hbe)
            have G2 := hid (Blk.new w2 (hc H) 29)
            have Hlt := hid (show ga < w2.heap.size ∧ gb < w2.heap.size from ⟨(Hab.out.next ht2).a.lt, (Hab.out.next ht2).b.lt⟩)
            generalize hgen : w2.alloc (.cells (hc H) 29) = y2 at *
            clear hgen hp2 ht2 hbe
            generalize w2.heap.size = g2 at *
            refine wp_region_anyD (fun w' => Blk w' g2 (hc H) 29) (by kernel_rfl) ?_
            intro x0 he0 hb0
            have C0 := hid (C2.out.later hb0)
            have A0 := hid (A2.out.later hb0)
            have G0 := hid (G2.out.later hb0)
            clear he0 hb0
            have hna : g2 ≠ ga := by have := Hlt.out; omega
            have hnb : g2 ≠ gb := by have := Hlt.out; omega
            have Hna := hid hna; have Hnb := hid hnb
            clear hna hnb
            show wpAnyC _ _ _ _ _ 4 (Array.replicate 4 false) _ _
            refine wpAnyC_take (i := 0) (v := hv H) rfl (by kernel_rfl) (by kernel_rfl) (by kernel_rfl) (fun _ _ _ h => h) (YieldsW.load_hc (by kernel_rfl) 29 _ rfl ⟨g2, 0, none⟩ (by kernel_rfl) H _ (fun _ hw => Blk.keepD hw) Tryd.underlying29 rfl SHl.out) ?_
            (first | dsimp only [List.getElem_toArray, List.getElem_cons_succ, List.getElem_cons_zero] | dsimp (maxSteps := 10000000) only [List.getElem_toArray, List.getElem_cons_succ, List.getElem_cons_zero] | skip); (first | go_frame | simp (maxSteps := 10000000) only [Act.put, List.setIfInBounds_toArray, List.set_cons_succ, List.set_cons_zero] | skip)
            refine wpAnyC_take (i := 1) (v := hv H) rfl (by kernel_rfl) (by kernel_rfl) (by kernel_rfl) (fun _ _ _ h => h) (YieldsW.load_hc (by kernel_rfl) 29 _ rfl ⟨g2, 0, none⟩ (by kernel_rfl) H _ (fun _ hw => Blk.keepD hw) Tryd.underlying29 rfl SHl.out) ?_
            (first | dsimp only [List.getElem_toArray, List.getElem_cons_succ, List.getElem_cons_zero] | dsimp (maxSteps := 10000000) only [List.getElem_toArray, List.getElem_cons_succ, List.getElem_cons_zero] | skip); (first | go_frame | simp (maxSteps := 10000000) only [Act.put, List.setIfInBounds_toArray, List.set_cons_succ, List.set_cons_zero] | skip)
            refine wpAnyC_forced (i := 2) (by kernel_rfl) rfl (G0.out) ?_
            (first | dsimp only [List.getElem_toArray, List.getElem_cons_succ, List.getElem_cons_zero] | dsimp (maxSteps := 10000000) only [List.getElem_toArray, List.getElem_cons_succ, List.getElem_cons_zero] | skip); (first | go_frame | simp (maxSteps := 10000000) only [Act.put, List.setIfInBounds_toArray, List.set_cons_succ, List.set_cons_zero] | skip)
            refine wpList_store_blk rfl 29 _ _ rfl ga rfl (hc H) rfl _ _ A0.out.a (by rw [hc_size, hc_size, HO.out, HH.out]) (SH.out H HH.out) (hc_row_one _) ?_
            refine wpList_nil ?_
            show wpAnyC _ _ _ _ _ _ _ _ _
            (first | dsimp only [List.getElem_toArray, List.getElem_cons_succ, List.getElem_cons_zero] | dsimp (maxSteps := 10000000) only [List.getElem_toArray, List.getElem_cons_succ, List.getElem_cons_zero] | skip); (first | go_frame | simp (maxSteps := 10000000) only [Act.put, List.setIfInBounds_toArray, List.set_cons_succ, List.set_cons_zero] | skip)
            have C1 := hid (C0.out.set A0.out.la (hc H))
            have A1 := hid (A0.out.setA (A' := H))
            have G1 := hid (G0.out.setRow_ne (cs' := hc H) Hna.out)
            refine wpAnyC_forced (i := 3) (by kernel_rfl) rfl (G1.out) ?_
            (first | dsimp only [List.getElem_toArray, List.getElem_cons_succ, List.getElem_cons_zero] | dsimp (maxSteps := 10000000) only [List.getElem_toArray, List.getElem_cons_succ, List.getElem_cons_zero] | skip); (first | go_frame | simp (maxSteps := 10000000) only [Act.put, List.setIfInBounds_toArray, List.set_cons_succ, List.set_cons_zero] | skip)
            refine wpList_store_blk rfl 29 _ _ rfl gb rfl (hc H) rfl _ _ A1.out.b (by rw [hc_size, hc_size, HO.out, HH.out]) (SH.out H HH.out) (hc_row_one _) ?_
            refine wpList_nil ?_
            show wpAnyC _ _ _ _ _ _ _ _ _
            (first | dsimp only [List.getElem_toArray, List.getElem_cons_succ, List.getElem_cons_zero] | dsimp (maxSteps := 10000000) only [List.getElem_toArray, List.getElem_cons_succ, List.getElem_cons_zero] | skip); (first | go_frame | simp (maxSteps := 10000000) only [Act.put, List.setIfInBounds_toArray, List.set_cons_succ, List.set_cons_zero] | skip)
            have G3 := hid (G1.out.setRow_ne (cs' := hc H) Hnb.out)
            refine wpAnyC_done (by kernel_rfl) G3.out ?_ _
            go_wp2_with fail
            go_meet
            exact ⟨C1.out.set A0.out.lb _, A1.out.setB⟩
        case rest =>
          obtain ⟨hck, hab⟩ := hcut
          have Hc2 := hid hck; have Ha2 := hid hab
          have HH := hid (H32.out H (by simp))
          have Hr := hid (show ∀ x ∈ rest, x.length = 32 from fun x hx => H32.out x (List.mem_cons_of_mem _ hx))
          clear hck hab Hck Hab H32
          go_wp2_with fail
          go_loopw [11, 12] (fun si sm wr => ∃ (i3 m3 : Nat) (ps : List (List UInt8)) (A B : List UInt8), i3 ≤ m3 ∧ m3 ≤ 4095 ∧ si = .int .i64 (i3 : Int) ∧ sm = .int .i64 (m3 : Int) ∧ ps.length = (dirD i3 m3).length ∧ climb2 (dirD i3 m3) ps A B = (O, N) ∧ (∀ x ∈ ps, x.length = 32) ∧ A.length = 32 ∧ B.length = 32 ∧ Ck w O N ps wr ∧ Ab w ga gb A B wr) (fun _ sm _ => (intOf sm).toNat)
          case atStart => exact ⟨i2, m2, rest, H, H, Nat.le_of_lt Hsl.out.1, Hsl.out.2, rfl, rfl, Hl.out, Hcl.out, Hr.out, HH.out, HH.out, Hc2.out, Ha2.out⟩
          case round =>
            obtain ⟨i3, m3, ps, A, B, h31, h32, rfl, rfl, hps, hcl3, hp32, hA, hB, hck, hab⟩ := hrel
            have Hck := hid hck; have Hab := hid hab; have Hps := hid hps; have Hcl3 := hid hcl3; have Hp32 := hid hp32; have HA := hid hA; have HB := hid hB
            clear hck hab hps hcl3 hp32 hA hB Hc2 Ha2 HH Hr Hsl Hl Hcl
            by_cases hz : m3 = 0
            · subst hz
              have e1 := Hps.out
              have e2 := Hcl3.out
              rw [dir_zero] at e1 e2
              have e3 : ps = [] := List.length_eq_zero_iff.1 (by simpa using e1)
              subst e3
              injection e2 with e4 e5
              subst e4; subst e5
              obtain ⟨v', hb, hs⟩ := Hck.out.pr
              obtain ⟨a, cap, rfl, _⟩ := hs.formH
              have SA := hid (SL.out A HA.out)
              have SB := hid (SL.out B HB.out)
              have KP := hid (fun q : Later wr => Blk.cell1 (hb.later (lat_below q)))
              have KO := hid (fun q : Later wr => Blk.keepD (Hck.out.bo.later (lat_below q)))
              have KN := hid (fun q : Later wr => Blk.keepD (Hck.out.bn.later (lat_below q)))
              have KA := hid (fun q : Later wr => Blk.keepD (Hab.out.a.later (lat_below q)))
              have KB := hid (fun q : Later wr => Blk.keepD (Hab.out.b.later (lat_below q)))
              have CH := hid (fun q : Later wr => holds_later (lat q))
              have HA' := HA.out
              have HB' := HB.out
              clear e1 e2 hb hs
              go_upto_region 27 with fail
              refine wp_region_seq_later ?_
              repeat (first
                | go_big_quiet_skip
                | (refine wpQuiet_load_one rfl 22 _ rfl ⟨w.heap.size + 2, 0, none⟩ rfl (.slice a ([] : List (List UInt8)).length cap) _ (by rintro _ ⟨q, rfl⟩; exact KP.out q) Tryd.underlying22 rfl ?_; simp only [Act.put, List.setIfInBounds_toArray, List.set_cons_succ, List.set_cons_zero])
                | (refine wpQuiet_load_hcG rfl 29 _ rfl ⟨w.heap.size, 0, none⟩ rfl _ _ (by rintro _ ⟨q, rfl⟩; exact KO.out q) Tryd.underlying29 rfl SA.out ?_; simp only [Act.put, List.setIfInBounds_toArray, List.set_cons_succ, List.set_cons_zero])
                | (refine wpQuiet_load_hcG rfl 29 _ rfl ⟨w.heap.size + 1, 0, none⟩ rfl _ _ (by rintro _ ⟨q, rfl⟩; exact KN.out q) Tryd.underlying29 rfl SB.out ?_; simp only [Act.put, List.setIfInBounds_toArray, List.set_cons_succ, List.set_cons_zero])
                | (refine wpQuiet_load_hcG rfl 29 _ rfl ⟨ga, 0, none⟩ rfl _ _ (by rintro _ ⟨q, rfl⟩; exact KA.out q) Tryd.underlying29 rfl SA.out ?_; simp only [Act.put, List.setIfInBounds_toArray, List.set_cons_succ, List.set_cons_zero])
                | (refine wpQuiet_load_hcG rfl 29 _ rfl ⟨gb, 0, none⟩ rfl _ _ (by rintro _ ⟨q, rfl⟩; exact KB.out q) Tryd.underlying29 rfl SB.out ?_; simp only [Act.put, List.setIfInBounds_toArray, List.set_cons_succ, List.set_cons_zero])
                | go_big_quiet_step ((first | (go_at_call 51; with_reducible exact calls_later (CH.out _)))))
              refine wpQuiet_nil ?_
              rintro _ ⟨q1, rfl⟩
              have hb1 := lat_below q1
              generalize lat q1 = w1 at *
              go_wp2
              go_ret
              exact ⟨rfl, bth Hck.out.be hb1⟩
            · have hpos := dir_pos m3 i3 (by omega) h31
              obtain ⟨h, ps', rfl⟩ : ∃ h ps', ps = h :: ps' := by
                cases ps with
                | nil => have := Hps.out; simp at this; omega
                | cons h ps' => exact ⟨h, ps', rfl⟩
              obtain ⟨v', hb, hs⟩ := Hck.out.pr
              have NX := hid (pnext_any (w.heap.size + 2) v' h ps' w wr hs Hck.out.be hb)
              have HH := hid (Hp32.out h (by simp))
              have Hp := hid (show ∀ x ∈ ps', x.length = 32 from fun x hx => Hp32.out x (List.mem_cons_of_mem _ hx))
              have SHl := hid (SL.out h HH.out)
              have SA := hid (SL.out A HA.out)
              have SB := hid (SL.out B HB.out)
              have z1 : decide ((0 : Int) < (m3 : Int)) = true := by simp; omega
              have z2 : decide (0 < m3) = true := by simp; omega
              have z3 : 0 < m3 := by omega
              clear hb hs hpos Hp32
              go_upto_region 22 with (first
                | (go_at_call 52; refine NX.out.mono ?_; rintro e w2 ⟨rfl, hp2, ht2⟩)
                | ((with_reducible show wpList _ _ _ ({ dst := _, op := Op.store _ _ _, type := _, pos := _, after := _, guard := _ } :: _) _ _); refine wpList_store_new rfl 29 _ _ rfl rfl h rfl (hc zero32) 29 (by rw [HH.out]; rfl) SHl.out ?_))
              show Code.wp _ _ _ _ (w2.alloc (.cells (hc h) 29))
              have hbe := (Below.refl _ w2).alloc (Nat.le_refl _) (.cells (hc h) 29)
              have C2 := hid ((Hck.out.next ht2 hp2).later hbe)
              have A2 := hid ((Hab.out.next ht2).later hbe)
              have G2 := hid (Blk.new w2 (hc h) 29)
              generalize hgen : w2.alloc (.cells (hc h) 29) = y2 at *
              clear hgen hp2 ht2 hbe NX
              generalize w2.heap.size = g2 at *
              have KG := hid (fun q : Later y2 => Blk.keepD (G2.out.later (lat_below q)))
              have KA := hid (fun q : Later y2 => Blk.keepD (A2.out.a.later (lat_below q)))
              have KB := hid (fun q : Later y2 => Blk.keepD (A2.out.b.later (lat_below q)))
              have HGy := hid (fun q : Later y2 => HG.out.later (bth C2.out.be (lat_below q)))
              clear Hck Hab G2
              by_cases hw : i3 % 2 = 1 ∨ i3 = m3
              · have hway : (((i3 : Int) % 2 == 1) = true) ∨ (((i3 : Int) % 2 == 1) = false ∧ i3 = m3) := by
                  by_cases h0 : i3 % 2 = 1
                  · exact .inl (by simp; omega)
                  · exact .inr ⟨by simp; omega, by omega⟩
                have HW := hid hw
                have HnA := hid (nodeL_len h A)
                have HnB := hid (nodeL_len h B)
                have N1 := hid (fun q : Later y2 => node_any h A (lat q) HH.out HA.out (HGy.out q))
                have N2 := hid (fun q : Later y2 => node_any h B (lat q) HH.out HB.out (HGy.out q))
                have Hcl4 := hid (show ∀ D, dirD i3 m3 = true :: D → ps'.length = D.length ∧ climb2 D ps' (nodeL h A) (nodeL h B) = (O, N) from fun D hD => by
                  have e1 := Hps.out
                  have e2 := Hcl3.out
                  rw [hD] at e1 e2
                  exact ⟨by simpa using e1, by simpa [climb2] using e2⟩)
                generalize nodeL h A = NA at *
                generalize nodeL h B = NB at *
                obtain ⟨D, hD⟩ : ∃ D, dirD i3 m3 = D := ⟨_, rfl⟩
                rw [hD] at Hcl4
                have HD := hid hD
                have H31 := hid h31; have H32 := hid h32; have Hz := hid hz
                obtain ⟨mx, hmx⟩ : ∃ mx, m3 = mx := ⟨_, rfl⟩
                have Hmx := hid hmx
                clear hmx
                clear hw hz hD Hps Hcl3 HGy
                rcases hway with hw1 | ⟨hw1, hw2⟩
                all_goals (
                  try have Hw2 := hid hw2
                  try subst hw2
                  go_upto_region 23 with fail
                  refine wp_region_later_tail 6 (by kernel_rfl) (by kernel_rfl) ?_
                  simp only [List.take_succ_cons, List.take_zero, List.drop_succ_cons, List.drop_zero]
                  repeat (first
                    | (refine wpQuiet_load_hcG rfl 29 _ rfl ⟨g2, 0, none⟩ rfl h _ (by rintro _ ⟨q, rfl⟩; exact KG.out q) Tryd.underlying29 rfl SHl.out ?_; simp only [Act.put, List.setIfInBounds_toArray, List.set_cons_succ, List.set_cons_zero])
                    | (refine wpQuiet_load_hcG rfl 29 _ rfl ⟨ga, 0, none⟩ rfl A _ (by rintro _ ⟨q, rfl⟩; exact KA.out q) Tryd.underlying29 rfl SA.out ?_; simp only [Act.put, List.setIfInBounds_toArray, List.set_cons_succ, List.set_cons_zero])
                    | (refine wpQuiet_load_hcG rfl 29 _ rfl ⟨gb, 0, none⟩ rfl B _ (by rintro _ ⟨q, rfl⟩; exact KB.out q) Tryd.underlying29 rfl SB.out ?_; simp only [Act.put, List.setIfInBounds_toArray, List.set_cons_succ, List.set_cons_zero])
                    | go_big_quiet_step ((first | (go_at_call 40; with_reducible exact calls_later (N1.out _)) | (go_at_call 40; with_reducible exact calls_later (N2.out _)))))
                  refine wpQuiet_nil ?_
                  rintro _ ⟨q3, rfl⟩
                  have hb3 := lat_below q3
                  generalize lat q3 = w3 at *
                  have C3 := hid (C2.out.later hb3)
                  have A3 := hid (A2.out.later hb3)
                  refine wpList_store_blk rfl 29 _ _ rfl ga rfl (hc NA) rfl _ _ A3.out.a (by rw [hc_size, hc_size, HnA.out, HA.out]) (SH.out NA HnA.out) (hc_row_one _) ?_
                  refine wpList_store_blk rfl 29 _ _ rfl gb rfl (hc NB) rfl _ _ (A3.out.setA (A' := NA)).b (by rw [hc_size, hc_size, HnB.out, HB.out]) (SH.out NB HnB.out) (hc_row_one _) ?_
                  have C4 := hid ((C3.out.set A3.out.la (hc NA)).set A3.out.lb (hc NB))
                  have A4 := hid ((A3.out.setA (A' := NA)).setB (B' := NB))
                  generalize (w3.setRow ga (hc NA)).setRow gb (hc NB) = w4 at *
                  clear C3 A3 C2 A2 hb3 hw1 KG KA KB N1 N2
                  go_wp2_with fail
                  try simp only [Act.put]
                  go_loop [11, 12] (fun si sm => ∃ i4 m4 : Nat, i4 ≤ m4 ∧ 0 < m4 ∧ m4 ≤ 4095 ∧ m4 ≤ mx ∧ (i4 % 2 = 1 ∨ i4 = m4) ∧ dirD i4 m4 = D ∧ si = .int .i64 (i4 : Int) ∧ sm = .int .i64 (m4 : Int)) (fun _ sm => (intOf sm).toNat)
                  case atStart => exact ⟨i3, _, H31.out, Nat.pos_of_ne_zero Hz.out, H32.out, Nat.le_of_eq Hmx.out, (by first | exact HW.out | exact .inr rfl), HD.out, rfl, rfl⟩
                  case round =>
                    obtain ⟨i4, m4, h41, h42, h43, h4x, h44, h45, rfl, rfl⟩ := hrel
                    obtain ⟨q, hq⟩ : ∃ q, i4 / 2 = q := ⟨_, rfl⟩
                    obtain ⟨q2, hq2⟩ : ∃ q2, m4 / 2 = q2 := ⟨_, rfl⟩
                    have e1 : (i4 : Int) / 2 = (q : Int) := by omega
                    have e2 : (m4 : Int) / 2 = (q2 : Int) := by omega
                    have hqq : q ≤ q2 := by omega
                    have hq2m : q2 ≤ 4095 := by omega
                    have H45 := hid h45
                    clear h45
                    by_cases ho : i4 % 2 = 1
                    · have hodd : ((i4 : Int) % 2 == 0) = false := by simp; omega
                      have Hds := hid (dir_odd i4 m4 h42 ho)
                      rw [hq, hq2, H45.out] at Hds
                      have Hqq := hid hqq; have Hq2m := hid hq2m
                      have Hq3 := hid (show q2 < mx by omega)
                      have HM := Hmx.out
                      clear ho hq hq2 h44 h41 h42 h43 h4x
                      go_wp2
                      go_roundw
                      case rel =>
                        obtain ⟨f1, f2⟩ := Hcl4.out _ Hds.out
                        exact ⟨q, q2, ps', NA, NB, Hqq.out, Hq2m.out, by go_num, by go_num, f1, f2, Hp.out, HnA.out, HnB.out, C4.out, A4.out⟩
                      case measure => have := Hq3.out; simp [intOf]; omega
                    · obtain rfl : i4 = m4 := by omega
                      have heven : ((i4 : Int) % 2 == 0) = true := by simp; omega
                      have hpos : decide ((0 : Int) < (i4 : Int)) = true := by simp; omega
                      have hpos2 : decide (0 < i4) = true := by simp; omega
                      have hpos3 : 0 < i4 := by omega
                      have Hds := hid (dir_last i4 h42 (by omega))
                      rw [hq, H45.out] at Hds
                      have Hq := hid (show 0 < q ∧ q ≤ 4095 ∧ q < i4 ∧ q ≤ mx by omega)
                      have hqe : q2 = q := by omega
                      subst hqe
                      clear ho hq2 h44 h41 h42 h43 h4x hq
                      go_wp2
                      go_round
                      case rel => exact ⟨q2, q2, Nat.le_refl _, Hq.out.1, Hq.out.2.1, Hq.out.2.2.2, .inr rfl, Hds.out.symm, by go_num, by go_num⟩
                      case measure => have := Hq.out; simp [intOf]; omega)
              · have hodd : ((i3 : Int) % 2 == 1) = false := by simp; omega
                have hne : ((i3 : Int) == (m3 : Int)) = false := beq_eq_false_iff_ne.mpr (by omega)
                have hne2 : (i3 == m3) = false := beq_eq_false_iff_ne.mpr (by omega)
                have Hds := hid (dir_even i3 m3 (by omega) (by omega) (by omega))
                obtain ⟨q, hq⟩ : ∃ q, i3 / 2 = q := ⟨_, rfl⟩
                obtain ⟨q2, hq2⟩ : ∃ q2, m3 / 2 = q2 := ⟨_, rfl⟩
                have e1 : (i3 : Int) / 2 = (q : Int) := by omega
                have e2 : (m3 : Int) / 2 = (q2 : Int) := by omega
                have Hqq := hid (show q ≤ q2 by omega)
                have Hq2m := hid (show q2 ≤ 4095 by omega)
                have Hq3 := hid (show q2 < m3 by omega)
                rw [hq, hq2] at Hds
                have HnB := hid (nodeL_len B h)
                have N2 := hid (fun q : Later y2 => node_any B h (lat q) HB.out HH.out (HGy.out q))
                have Hcl4 := hid (show ps'.length = (dirD q q2).length ∧ climb2 (dirD q q2) ps' A (nodeL B h) = (O, N) from by
                  have e1 := Hps.out
                  have e2 := Hcl3.out
                  rw [Hds.out] at e1 e2
                  exact ⟨by simpa using e1, by simpa [climb2] using e2⟩)
                generalize nodeL B h = NB at *
                clear hw hq hq2 HGy Hps Hcl3 Hds
                go_upto_region 19 with fail
                refine wp_region_seq_later_tail 3 ?_
                simp only [List.take_succ_cons, List.take_zero, List.drop_succ_cons, List.drop_zero]
                repeat (first
                  | (refine wpQuiet_load_hcG rfl 29 _ rfl ⟨g2, 0, none⟩ rfl h _ (by rintro _ ⟨q, rfl⟩; exact KG.out q) Tryd.underlying29 rfl SHl.out ?_; simp only [Act.put, List.setIfInBounds_toArray, List.set_cons_succ, List.set_cons_zero])
                  | (refine wpQuiet_load_hcG rfl 29 _ rfl ⟨gb, 0, none⟩ rfl B _ (by rintro _ ⟨q, rfl⟩; exact KB.out q) Tryd.underlying29 rfl SB.out ?_; simp only [Act.put, List.setIfInBounds_toArray, List.set_cons_succ, List.set_cons_zero])
                  | go_big_quiet_step ((first | (go_at_call 40; with_reducible exact calls_later (N2.out _)))))
                refine wpQuiet_nil ?_
                rintro _ ⟨q3, rfl⟩
                have hb3 := lat_below q3
                generalize lat q3 = w3 at *
                have C3 := hid (C2.out.later hb3)
                have A3 := hid (A2.out.later hb3)
                refine wpList_store_blk rfl 29 _ _ rfl gb rfl (hc NB) rfl _ _ A3.out.b (by rw [hc_size, hc_size, HnB.out, HB.out]) (SH.out NB HnB.out) (hc_row_one _) ?_
                have C4 := hid (C3.out.set A3.out.lb (hc NB))
                have A4 := hid (A3.out.setB (B' := NB))
                generalize w3.setRow gb (hc NB) = w4 at *
                clear C3 A3 C2 A2 hb3 KG KA KB N2
                go_wp2
                go_roundw
                case rel => exact ⟨q, q2, ps', A, NB, Hqq.out, Hq2m.out, by go_num, by go_num, Hcl4.out.1, Hcl4.out.2, Hp.out, HA.out, HnB.out, C4.out, A4.out⟩
                case measure => have := Hq3.out; simp [intOf]; omega
theorem pcheck_ok (l : List (List UInt8)) (m : Nat) (v : Value) (w : World) (hm : m ≤ l.length) (hl : l.length ≤ 4096) (h32 : ∀ x ∈ l, x.length = 32) (hS : SlAt w 32 v (hcs (proofL l m))) (hG : ShaG w) :
    Calls Tryd.prog 27 #[.int .i64 (m : Int), .int .i64 (l.length : Int), hv (rootL (l.take m)), hv (rootL l), v] w fun e w' => e = .returned (.int .i64 0) ∧ Below w.heap.size w w' := by
  have hN := rootL_len _ l (Nat.le_refl _) h32
  have hO := rootL_len _ (l.take m) (Nat.le_refl _) (fun x hx => h32 x (List.mem_of_mem_take hx))
  by_cases h0 : m = 0
  · subst h0
    have e : proofL l 0 = [] := by unfold proofL; rw [if_pos (.inl rfl)]
    rw [e] at hS
    exact pcheck_zero l.length (rootL (l.take 0)) (rootL l) v w hl hO hN rfl (fun h => by rw [List.length_eq_zero_iff.1 h]; rfl) hS hG
  · by_cases h1 : m = l.length
    · subst h1
      have e : proofL l l.length = [] := by unfold proofL; rw [if_pos (.inr rfl)]
      rw [e] at hS
      rw [List.take_length]
      exact pcheck_all l.length (rootL l) v w hl (by omega) hN hS
    · have e : proofL l m = subL l m true := by unfold proofL; rw [if_neg (by omega)]
      rw [e] at hS
      obtain ⟨h, rest, r1, r2, r3, r4, r5⟩ := con_all l.length l m (Nat.le_refl _) (by omega) hm (fun h => absurd h h1)
      have hp32 := hS.len32
      exact pcheck_mid m l.length _ _ h _ rest v w (by omega) (by omega) hl hO hN r2 r3 r4 r5 hS (fun x hx => by
        rw [r2] at hp32
        by_cases hc : conI m l.length = 0
        · rw [if_pos hc] at hp32
          rcases List.mem_cons.1 hx with rfl | hx
          · rw [r5 hc]; exact hO
          · exact hp32 x hx
        · rw [if_neg hc] at hp32
          exact hp32 x hx) hG
end Go.Proofs.YtbpjlancjdbehaaDoor
