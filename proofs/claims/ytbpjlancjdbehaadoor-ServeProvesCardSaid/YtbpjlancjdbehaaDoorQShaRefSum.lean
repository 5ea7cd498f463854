/- speculumref02.Sum: the walk -/
import Derived.Test.YtbpjlancjdbehaaDoorQShaPad

set_option maxRecDepth 100000
set_option maxRecDepth 1000000
namespace Go.Proofs.YtbpjlancjdbehaaDoor
open Go.RowKit Go.Spec
theorem rK_len : rK.length = 64 := rfl
theorem set_nextG {α : Type} (P : List α) (n : Nat) (x z : α) : (P ++ List.replicate (n + 1) z).set P.length x = (P ++ [x]) ++ List.replicate n z := by
  rw [List.set_append_right _ _ (Nat.le_refl _)]
  simp [List.replicate_succ]
theorem out_set (v : V8) (k : Nat) (h : k < 32) : ((outL v).take k ++ List.replicate (32 - k) 0).set k (UInt8.ofNat (v.l.getD (k / 4) 0 / 256 ^ (3 - k % 4) % 256)) = (outL v).take (k + 1) ++ List.replicate (32 - (k + 1)) 0 := by
  have hl : k < (outL v).length := by rw [outL_len]; exact h
  have ho := out_byte v k h
  rw [List.getElem?_eq_getElem hl] at ho
  injection ho with ho
  have := set_nextG ((outL v).take k) (31 - k) (UInt8.ofNat (v.l.getD (k / 4) 0 / 256 ^ (3 - k % 4) % 256)) 0
  rw [List.length_take, outL_len, Nat.min_eq_left (by omega)] at this
  rw [show 32 - k = 31 - k + 1 by omega, this, show 32 - (k + 1) = 31 - k by omega, List.take_succ_eq_append_getElem hl, ho]
theorem turn_p (x : Nat) (k : Int) (w : World) (hx : x < 4294967296) (hk : 0 < k) (hk2 : k < 32) :
    Calls Tryd.prog 92 #[.int .u32 x, .int .u32 k] w fun e w' => e = .returned (.int .u32 (rotr x k.toNat)) ∧ w = w' :=
  (turn_i x k w hx hk hk2).mono fun _ _ ⟨h1, h2⟩ => ⟨h1, h2.symm⟩
set_option maxHeartbeats 100000000 in
theorem rsum_any (l : List UInt8) (w : World) (hl : l.length ≤ 1000000000) :
    Calls Tryd.prog 66 #[sv l] w fun e w' => e = .returned (hv (sumL l)) ∧ Below w.heap.size w w' := by
  have Hs8 := hid (show (Tryd.prog.info? 105).map (·.size) = some (rowOf uc v0.l).size by rw [rowOf_size, V8.len]; exact Tryd.size8)
  have Hl8 := hid (show (rowOf uc v0.l).size = 8 by rw [rowOf_size, V8.len])
  have Hs64 := hid (show (Tryd.prog.info? 130).map (·.size) = some (rowOf uc rK).size by rw [rowOf_size, rK_len]; exact Tryd.size64)
  have Hl64 := hid (show (rowOf uc rK).size = 64 by rw [rowOf_size, rK_len])
  go_enter Tryd.func66, Tryd.ntmps66
  go_wp2_with (first
    | ((with_reducible show wpList _ _ _ ({ dst := _, op := Op.build 130 _, type := _, pos := _, after := _, guard := _ } :: _) _ _); refine wpList_buildV rfl 130 _ rfl (.agg (rowOf uc rK)) (by kernel_rfl) ?_)
    | ((with_reducible show wpList _ _ _ ({ dst := _, op := Op.build 105 _, type := _, pos := _, after := _, guard := _ } :: _) _ _); refine wpList_buildV rfl 105 _ rfl (.agg (rowOf uc v0.l)) (by kernel_rfl) ?_)
    | ((with_reducible show wpList _ _ _ ({ dst := _, op := Op.store 130 _ _, type := _, pos := _, after := _, guard := _ } :: _) _ _); refine wpList_store_blk rfl 130 _ _ rfl (w.heap.size + 1) rfl (rowOf uc rK) rfl _ _ (Blk.new' _ _ _ (by simp)) Hl64.out Hs64.out (uc_row_one _) ?_)
    | ((with_reducible show wpList _ _ _ ({ dst := _, op := Op.store 105 _ _, type := _, pos := _, after := _, guard := _ } :: _) _ _); refine wpList_store_blk rfl 105 _ _ rfl (w.heap.size + 1 + 1) rfl (rowOf uc v0.l) rfl _ _ (Blk.new' _ _ _ (by simp)) Hl8.out Hs8.out (uc_row_one _) ?_)
    | (go_at_call 91; refine (pad_any l _ hl).mono ?_; rintro e w1 ⟨v, rfl, hr1, hb1⟩; obtain ⟨g5, cap5, rfl, hg5, hg5l, hg5c, hg5b⟩ := hr1.get))
  have hz1 : ((w.alloc (.cells (hc zero32) 29)).heap.size) = w.heap.size + 1 := by simp
  have hbA : Below w.heap.size w w1 := by
    refine Below.trans ?_ (hb1.mono (by simp; omega))
    exact ((((Below.refl _ w).alloc (Nat.le_refl _) _).alloc (by simp) _ |>.setRow (by omega) _).alloc (by simp; omega) _ |>.setRow (by omega) _)
  have hWh : Blk w1 w.heap.size (hc zero32) 29 := ((((Blk.new w _ _).alloc _).setRow_ne (by omega)).alloc _ |>.setRow_ne (by omega)).later hb1
  have hWk : Blk w1 (w.heap.size + 1) (rowOf uc rK) 130 := (((Blk.new' _ _ _ (by simp)).setRow).alloc _ |>.setRow_ne (by omega)).later hb1
  have hWv : Blk w1 (w.heap.size + 1 + 1) (rowOf uc v0.l) 105 := ((Blk.new' _ _ _ (by simp)).setRow).later hb1
  simp at hg5
  have hRS : RS w (w1.alloc (.cells (rowOf uc (List.replicate 64 0)) 130)) w.heap.size (w.heap.size + 1) (w.heap.size + 1 + 1) g5 w1.heap.size (padL l) v0.l (List.replicate 64 0) :=
    ⟨hWh.alloc _, hWk.alloc _, hWv.alloc _, fun j hj => by rw [World.cell?_alloc_past _ _ _ hg5l]; exact hg5b j hj, by simp; omega, Blk.new _ _ _, hbA.alloc hbA.size _, ⟨by omega, by omega, by omega, by omega, hg5l⟩, by simp, rfl⟩
  have hRS' : RS w (w1.alloc (.cells #[.int .u32 0, .int .u32 0, .int .u32 0, .int .u32 0, .int .u32 0, .int .u32 0, .int .u32 0, .int .u32 0, .int .u32 0, .int .u32 0, .int .u32 0, .int .u32 0, .int .u32 0, .int .u32 0, .int .u32 0, .int .u32 0, .int .u32 0, .int .u32 0, .int .u32 0, .int .u32 0, .int .u32 0, .int .u32 0, .int .u32 0, .int .u32 0, .int .u32 0, .int .u32 0, .int .u32 0, .int .u32 0, .int .u32 0, .int .u32 0, .int .u32 0, .int .u32 0, .int .u32 0, .int .u32 0, .int .u32 0, .int .u32 0, .int .u32 0, .int .u32 0, .int .u32 0, .int .u32 0, .int .u32 0, .int .u32 0, .int .u32 0, .int .u32 0, .int .u32 0, .int .u32 0, .int .u32 0, .int .u32 0, .int .u32 0, .int .u32 0, .int .u32 0, .int .u32 0, .int .u32 0, .int .u32 0, .int .u32 0, .int .u32 0, .int .u32 0, .int .u32 0, .int .u32 0, .int .u32 0, .int .u32 0, .int .u32 0, .int .u32 0, .int .u32 0] 130)) w.heap.size (w.heap.size + 1) (w.heap.size + 1 + 1) g5 w1.heap.size (padL l) v0.l (List.replicate 64 0) := hRS
  clear hRS
  have hp0 := padL_len l
  have hp1 := padL_le l
  obtain ⟨N, hN⟩ : ∃ N, (padL l).length = 64 * N := ⟨(padL l).length / 64, by omega⟩
  have Hsum := hid (show sumL l = outL (blks (padL l) N) by rw [sumL, hN, Nat.mul_div_cancel_left N (by omega)])
  generalize padL l = p at *
  have Hp := hid hN
  have hpl : p.length ≤ 2000000000 := by omega
  clear hN hp0 hp1 hWh hWk hWv hbA hr1 hb1 hz1 hg5b
  generalize (w1.alloc (.cells #[.int .u32 0, .int .u32 0, .int .u32 0, .int .u32 0, .int .u32 0, .int .u32 0, .int .u32 0, .int .u32 0, .int .u32 0, .int .u32 0, .int .u32 0, .int .u32 0, .int .u32 0, .int .u32 0, .int .u32 0, .int .u32 0, .int .u32 0, .int .u32 0, .int .u32 0, .int .u32 0, .int .u32 0, .int .u32 0, .int .u32 0, .int .u32 0, .int .u32 0, .int .u32 0, .int .u32 0, .int .u32 0, .int .u32 0, .int .u32 0, .int .u32 0, .int .u32 0, .int .u32 0, .int .u32 0, .int .u32 0, .int .u32 0, .int .u32 0, .int .u32 0, .int .u32 0, .int .u32 0, .int .u32 0, .int .u32 0, .int .u32 0, .int .u32 0, .int .u32 0, .int .u32 0, .int .u32 0, .int .u32 0, .int .u32 0, .int .u32 0, .int .u32 0, .int .u32 0, .int .u32 0, .int .u32 0, .int .u32 0, .int .u32 0, .int .u32 0, .int .u32 0, .int .u32 0, .int .u32 0, .int .u32 0, .int .u32 0, .int .u32 0, .int .u32 0] 130)) = wA at *
  generalize w1.heap.size = g6 at *
  generalize w.heap.size + 1 + 1 = g4 at *
  generalize w.heap.size + 1 = g3 at *
  generalize hg0 : w.heap.size = g0 at *
  clear hg0
  go_loopw [7] (fun a wr => ∃ (n : Nat) (m : Nat) (ws : List Nat), n ≤ N ∧ a = .int .i64 (m : Int) ∧ m = 64 * n ∧ RS w wr g0 g3 g4 g5 g6 p (blks p n).l ws) (fun a _ => p.length - (intOf a).toNat)
  case atStart => exact ⟨0, 0, _, by omega, rfl, rfl, hRS'⟩
  case round =>
    obtain ⟨n, m, ws, hn, rfl, hm, hR⟩ := hrel
    clear hRS'
    have Hm := hid hm
    by_cases hlt : n < N
    · have hmp : m + 64 ≤ p.length := by rw [Hp.out]; omega
      have hmi : (m : Int) < (p.length : Int) := by omega
      clear hm
      have hwl := hR.wl
      obtain ⟨wo, hwo⟩ : ∃ wo : World, wo = wr := ⟨_, rfl⟩
      rw [← hwo]
      rw [← hwo] at hR
      clear hwo
      go_wp2
      go_loopw [8] (fun i wr => ∃ k : Nat, k ≤ 16 ∧ i = .int .i64 (k : Int) ∧ RS w wr g0 g3 g4 g5 g6 p (blks p n).l (wsch ((p.drop m).take 64) k ++ ws.drop k)) (fun i _ => 16 - (intOf i).toNat)
      case atStart => exact ⟨0, by omega, rfl, hR⟩
      case round =>
        obtain ⟨k, hk, rfl, hS⟩ := hrel
        clear hR
        by_cases h16 : k < 16
        · obtain ⟨j0, hj0⟩ : ∃ j, m + 4 * k = j := ⟨_, rfl⟩
          have e0 : (m : Int) + 4 * (k : Int) = (j0 : Int) := by omega
          have hj0p : j0 + 3 < p.length := by omega
          obtain ⟨j1, hj1⟩ : ∃ j, j0 + 1 = j := ⟨_, rfl⟩
          obtain ⟨j2, hj2⟩ : ∃ j, j0 + 2 = j := ⟨_, rfl⟩
          obtain ⟨j3, hj3⟩ : ∃ j, j0 + 3 = j := ⟨_, rfl⟩
          have i1 : IntKind.i64.wrap ((j0 : Int) + 1) = (j1 : Int) := by rw [IntWalk.i64_in _ (by omega)]; omega
          have i2 : IntKind.i64.wrap ((j0 : Int) + 2) = (j2 : Int) := by rw [IntWalk.i64_in _ (by omega)]; omega
          have i3 : IntKind.i64.wrap ((j0 : Int) + 3) = (j3 : Int) := by rw [IntWalk.i64_in _ (by omega)]; omega
          have p0 : (j0 : Int) < (p.length : Int) := by omega
          have p1 : (j1 : Int) < (p.length : Int) := by omega
          have p2 : (j2 : Int) < (p.length : Int) := by omega
          have p3 : (j3 : Int) < (p.length : Int) := by omega
          have hk64 : (k : Int) < 64 := by omega
          have Hw := hid (word_at p m k h16)
          have Hw2 := hid (show wsch ((p.drop m).take 64) (k + 1) = wsch ((p.drop m).take 64) k ++ [word ((p.drop m).take 64) k] by rw [wsch, if_pos h16])
          have Hset := hid (wdrop_set ((p.drop m).take 64) ws k (word ((p.drop m).take 64) k) hwl (by omega) Hw2.out)
          have Hq := hid (show m + 4 * k = j0 ∧ m + 4 * k + 1 = j1 ∧ m + 4 * k + 2 = j2 ∧ m + 4 * k + 3 = j3 from ⟨hj0, by omega, by omega, by omega⟩)
          clear hj1 hj2 hj3
          have Hj0 := hid hj0; clear hj0
          go_wp2_with fail
          refine wp_region_tail 31 (by kernel_rfl) (by kernel_rfl) ?_
          intro w1 he1 hb1
          simp only [List.take_succ_cons, List.take_zero, List.drop_succ_cons, List.drop_zero]
          have hS1 := hS.heap (w' := w1) he1 hb1
          have c0 := hS1.b j0 (by omega)
          have c1 := hS1.b j1 (by omega)
          have c2 := hS1.b j2 (by omega)
          have c3 := hS1.b j3 (by omega)
          have hst := hS1.w6.u32 k (by rw [wdrop_len _ _ _ hwl (by omega)]; omega)
          have hfr := hS1.w6.free k
          have l0 := (p.getD j0 0).toNat_lt
          have l1 := (p.getD j1 0).toNat_lt
          have l2 := (p.getD j2 0).toNat_lt
          have l3 := (p.getD j3 0).toNat_lt
          have Hfin := hid (hS1.setw k (word ((p.drop m).take 64) k))
          have HW3 := hid (show word ((p.drop m).take 64) k = (((p.getD j0 0).toNat * 256 + (p.getD j1 0).toNat) * 256 + (p.getD j2 0).toNat) * 256 + (p.getD j3 0).toNat by
            have := Hw.out
            have h1 := Hq.out
            rw [h1.1] at this
            rw [show j0 + 1 = j1 by omega, show j0 + 2 = j2 by omega, show j0 + 3 = j3 by omega] at this
            exact this)
          generalize (wsch ((p.drop m).take 64) k ++ ws.drop k).getD k 0 = z at *
          generalize (p.getD j0 0).toNat = b0 at *
          generalize (p.getD j1 0).toNat = b1 at *
          generalize (p.getD j2 0).toNat = b2 at *
          generalize (p.getD j3 0).toNat = b3 at *
          repeat (first | still_step)
          refine wpStill_nil ?_
          go_wp2
          go_roundw
          case rel =>
            refine ⟨k + 1, by omega, by go_num, ?_⟩
            have h := Hfin.out
            rw [Hset.out] at h
            rw [show ((b0 : Int) * 16777216 + (b1 : Int) * 65536 + (b2 : Int) * 256 + (b3 : Int)) = ((word ((p.drop m).take 64) k : Nat) : Int) by rw [HW3.out]; omega]
            exact h
          case measure => simp [intOf]; omega
        · have hk16 : k = 16 := by omega
          have hkd : decide ((k : Int) < 16) = false := by simp; omega
          clear hk h16
          obtain ⟨wp, hwp⟩ : ∃ wp : World, wp = wr := ⟨_, rfl⟩
          rw [← hwp]
          rw [← hwp, hk16] at hS
          clear hwp
          have Hk16 := hid hk16
          clear hk16
          go_wp2
          go_loopw [10] (fun i wr => ∃ k : Nat, 16 ≤ k ∧ k ≤ 64 ∧ i = .int .i64 (k : Int) ∧ RS w wr g0 g3 g4 g5 g6 p (blks p n).l (wsch ((p.drop m).take 64) k ++ ws.drop k)) (fun i _ => 64 - (intOf i).toNat)
          case atStart => exact ⟨16, by omega, by omega, rfl, hS⟩
          case round =>
            obtain ⟨q, hq16, hq64, rfl, hT⟩ := hrel
            clear hS
            by_cases hlq : q < 64
            · have hqq : (q : Int) < 64 := by omega
              have Hw2 := hid (show wsch ((p.drop m).take 64) (q + 1) = wsch ((p.drop m).take 64) q ++ [wnew (wsch ((p.drop m).take 64) q) q] by rw [wsch, if_neg (by omega)])
              obtain ⟨j16, h16'⟩ : ∃ j, q - 16 = j := ⟨_, rfl⟩
              obtain ⟨j15, h15'⟩ : ∃ j, q - 15 = j := ⟨_, rfl⟩
              obtain ⟨j7, h7'⟩ : ∃ j, q - 7 = j := ⟨_, rfl⟩
              obtain ⟨j2, h2'⟩ : ∃ j, q - 2 = j := ⟨_, rfl⟩
              have e16 : (q : Int) - 16 = (j16 : Int) := by omega
              have e15 : (q : Int) - 15 = (j15 : Int) := by omega
              have e7 : (q : Int) - 7 = (j7 : Int) := by omega
              have e2 : (q : Int) - 2 = (j2 : Int) := by omega
              have m16 : (j16 : Int) < 64 := by omega
              have m15 : (j15 : Int) < 64 := by omega
              have m7 : (j7 : Int) < 64 := by omega
              have m2 : (j2 : Int) < 64 := by omega
              have wl := wdrop_len ((p.drop m).take 64) ws q hwl (by omega)
              have g16 := wdrop_get ((p.drop m).take 64) ws q j16 (by omega)
              have g15 := wdrop_get ((p.drop m).take 64) ws q j15 (by omega)
              have g7 := wdrop_get ((p.drop m).take 64) ws q j7 (by omega)
              have g2 := wdrop_get ((p.drop m).take 64) ws q j2 (by omega)
              have c15 := hT.w6.u32 j15 (by omega)
              have c2 := hT.w6.u32 j2 (by omega)
              rw [g15] at c15
              rw [g2] at c2
              have Hnew := hid (show wnew (wsch ((p.drop m).take 64) q) q = ((wsch ((p.drop m).take 64) q).getD j16 0 + (wsch ((p.drop m).take 64) q).getD j7 0 + sg0 ((wsch ((p.drop m).take 64) q).getD j15 0) + sg1 ((wsch ((p.drop m).take 64) q).getD j2 0)) % 4294967296 by rw [wnew, h16', h15', h7', h2'])
              have b15 := wsch_getD_lt ((p.drop m).take 64) q j15
              have b2 := wsch_getD_lt ((p.drop m).take 64) q j2
              have Hset := hid (wdrop_set ((p.drop m).take 64) ws q (wnew (wsch ((p.drop m).take 64) q) q) hwl (by omega) Hw2.out)
              have HG := hid (And.intro g16 g7)
              have Hwl := hid wl
              have Hj := hid (show j16 < 64 ∧ j7 < 64 by omega)
              clear g16 g15 g7 g2 h16' h15' h7' h2' wl
              generalize (wsch ((p.drop m).take 64) q).getD j15 0 = a15 at *
              generalize (wsch ((p.drop m).take 64) q).getD j2 0 = a2 at *
              generalize ha16 : (wsch ((p.drop m).take 64) q).getD j16 0 = a16 at *
              generalize ha7 : (wsch ((p.drop m).take 64) q).getD j7 0 = a7 at *
              clear ha16 ha7
              have Hval := hid (sched_val a16 a7 a15 a2 b15 b2)
              go_wp2
              go_quiet (fail)
              go_wp2_with fail
              have w16 := IntWalk.i64_in (j16 : Int) (by omega)
              have w7 := IntWalk.i64_in (j7 : Int) (by omega)
              refine wp_region_tail 29 (by kernel_rfl) (by kernel_rfl) ?_
              intro w1 he1 hb1
              simp only [List.take_succ_cons, List.take_zero, List.drop_succ_cons, List.drop_zero]
              have hT1 := (hT.drewN nq).heap (w' := w1) he1 hb1
              have d16 := hT1.w6.u32 j16 (by rw [Hwl.out]; exact Hj.out.1)
              have d7 := hT1.w6.u32 j7 (by rw [Hwl.out]; exact Hj.out.2)
              rw [HG.out.1] at d16
              rw [HG.out.2] at d7
              have dst := hT1.w6.u32 q (by rw [Hwl.out]; exact hlq)
              have dfr := hT1.w6.free q
              have Hfin := hid (hT1.setw q (wnew (wsch ((p.drop m).take 64) q) q))
              generalize (wsch ((p.drop m).take 64) q ++ ws.drop q).getD q 0 = z at *
              repeat (first | still_step | still_call (turn_i _ _ _ b15 (by omega) (by omega)) | still_call (turn_i _ _ _ b2 (by omega) (by omega)))
              refine wpStill_nil ?_
              rw [Hval.out, ← Hnew.out]
              go_wp2
              go_roundw
              case rel =>
                have h := Hfin.out
                rw [Hset.out] at h
                exact ⟨q + 1, by omega, by omega, by go_num, h⟩
              case measure => simp [intOf]; omega
            · have hq64' : q = 64 := by omega
              have hqd : decide ((q : Int) < 64) = false := by simp; omega
              obtain ⟨wq, hwq⟩ : ∃ wq : World, wq = wr := ⟨_, rfl⟩
              rw [← hwq]
              rw [← hwq, hq64', show ws.drop 64 = [] from List.drop_eq_nil_of_le (by omega), List.append_nil] at hT
              clear hwq hq64 hlq hq16
              have Hq64 := hid hq64'
              clear hq64'
              have hVok := blks_ok p n
              have Hnext := hid (show blks p (n + 1) = addV (rnds (blks p n) (wsch ((p.drop m).take 64) 64) 64) (blks p n) by rw [blks, mixF, ← Hm.out])
              generalize hV : blks p n = V at *
              have HV := hid hV
              clear hV
              have hVok0 := hid hVok
              have hc8 : wq.cell? ⟨g4, 0, none⟩ = some (.int .u32 V.a) ∧ wq.cell? ⟨g4, 1, none⟩ = some (.int .u32 V.b) ∧ wq.cell? ⟨g4, 2, none⟩ = some (.int .u32 V.c) ∧ wq.cell? ⟨g4, 3, none⟩ = some (.int .u32 V.d) ∧
                  wq.cell? ⟨g4, 4, none⟩ = some (.int .u32 V.e) ∧ wq.cell? ⟨g4, 5, none⟩ = some (.int .u32 V.f) ∧ wq.cell? ⟨g4, 6, none⟩ = some (.int .u32 V.g) ∧ wq.cell? ⟨g4, 7, none⟩ = some (.int .u32 V.h) := v8cells hT.v
              obtain ⟨c0, c1, c2, c3, c4, c5, c6, c7⟩ := hc8
              generalize hWS : wsch ((p.drop m).take 64) 64 = WS at *
              have HWS := hid hWS
              clear hWS
              go_wp2
              go_quiet (fail)
              go_wp2
              go_loopw [13, 14, 15, 16, 17, 18, 19, 20, 21] (fun s13 s14 s15 s16 s17 s18 s19 s20 i wr => ∃ k : Nat, k ≤ 64 ∧ i = .int .i64 (k : Int) ∧ s13 = .int .u32 ((rnds V WS k).a : Int) ∧ s14 = .int .u32 ((rnds V WS k).b : Int) ∧ s15 = .int .u32 ((rnds V WS k).c : Int) ∧ s16 = .int .u32 ((rnds V WS k).d : Int) ∧
                  s17 = .int .u32 ((rnds V WS k).e : Int) ∧ s18 = .int .u32 ((rnds V WS k).f : Int) ∧ s19 = .int .u32 ((rnds V WS k).g : Int) ∧ s20 = .int .u32 ((rnds V WS k).h : Int) ∧ RS w wr g0 g3 g4 g5 g6 p V.l WS) (fun _ _ _ _ _ _ _ _ i _ => 64 - (intOf i).toNat)
              case atStart => exact ⟨0, by omega, rfl, rfl, rfl, rfl, rfl, rfl, rfl, rfl, rfl, hT.drewN nq⟩
              case round =>
                obtain ⟨x, hx, rfl, rfl, rfl, rfl, rfl, rfl, rfl, rfl, rfl, hX⟩ := hrel
                clear hT c0 c1 c2 c3 c4 c5 c6 c7
                by_cases hlx : x < 64
                · have hxx : (x : Int) < 64 := by omega
                  have hUok := rnds_ok hVok WS x
                  have Hrn := hid (show rnds V WS (x + 1) = rnd (rnds V WS x) (rK.getD x 0) (WS.getD x 0) from rfl)
                  have HWlt := hid (show WS.getD x 0 < 4294967296 by rw [← HWS.out]; exact wsch_getD_lt _ _ _)
                  have Hx64 := hid (show x < rK.length ∧ x < WS.length from ⟨by rw [rK_len]; exact hlx, by rw [hX.wl]; exact hlx⟩)
                  generalize hU : rnds V WS x = U at *
                  clear hU
                  obtain ⟨a, b, c, d, e, f, g, h⟩ := U
                  obtain ⟨va, vb, vc, vd, ve, vf, vg, vh⟩ := hUok
                  dsimp only at va vb vc vd ve vf vg vh ⊢
                  have HT6 := hid (t_val ⟨a, b, c, d, e, f, g, h⟩ (rK.getD x 0) (WS.getD x 0) ⟨va, vb, vc, vd, ve, vf, vg, vh⟩)
                  have HT7a := u_val ⟨a, b, c, d, e, f, g, h⟩ ⟨va, vb, vc, vd, ve, vf, vg, vh⟩
                  rw [IntKind.wrap_u32] at HT7a
                  have HT7 := hid HT7a
                  clear HT7a
                  have HTlt := tF_lt ⟨a, b, c, d, e, f, g, h⟩ (rK.getD x 0) (WS.getD x 0)
                  have HUlt := uF_lt ⟨a, b, c, d, e, f, g, h⟩
                  have Hrnd := hid (show rnd ⟨a, b, c, d, e, f, g, h⟩ (rK.getD x 0) (WS.getD x 0) = ⟨(tF ⟨a, b, c, d, e, f, g, h⟩ (rK.getD x 0) (WS.getD x 0) + uF ⟨a, b, c, d, e, f, g, h⟩) % 4294967296, a, b, c, (d + tF ⟨a, b, c, d, e, f, g, h⟩ (rK.getD x 0) (WS.getD x 0)) % 4294967296, e, f, g⟩ from rfl)
                  generalize tF ⟨a, b, c, d, e, f, g, h⟩ (rK.getD x 0) (WS.getD x 0) = T at *
                  generalize uF ⟨a, b, c, d, e, f, g, h⟩ = U at *
                  dsimp only at HT6 HT7
                  go_wp2_with fail
                  refine wp_region_tail 27 (by kernel_rfl) (by kernel_rfl) ?_
                  intro w1 he1 hb1
                  simp only [List.take_succ_cons, List.take_zero, List.drop_succ_cons, List.drop_zero]
                  have hX1 := hX.heap (w' := w1) he1 hb1
                  have dk := hX1.k.u32 x Hx64.out.1
                  have dw := hX1.w6.u32 x Hx64.out.2
                  generalize rK.getD x 0 = K at *
                  generalize WS.getD x 0 = W at *
                  repeat (first | still_step | still_call (turn_i _ _ _ ve (by omega) (by omega)))
                  refine wpStill_nil ?_
                  rw [show (if IntKind.u32.signed = true then (-1 : Int) else IntKind.u32.max) = IntKind.u32.max from rfl, HT6.out]
                  go_upto_region 24 with (go_at_call 92; refine (turn_p a _ _ va (by omega) (by omega)).mono ?_; rintro e w3 ⟨rfl, rfl⟩)
                  rw [HT7.out]
                  go_wp2
                  go_roundw
                  case rel =>
                    refine ⟨x + 1, by omega, by go_num, ?_, ?_, ?_, ?_, ?_, ?_, ?_, ?_, hX1⟩
                    all_goals rw [Hrn.out, Hrnd.out]
                    all_goals (try rfl)
                    all_goals go_num
                  case measure => simp [intOf]; omega
                · have hx64 : x = 64 := by omega
                  have hxd : decide ((x : Int) < 64) = false := by simp; omega
                  have Hx64 := hid hx64
                  clear hx hlx hx64
                  obtain ⟨c0, c1, c2, c3, c4, c5, c6, c7⟩ : wr.cell? ⟨g4, 0, none⟩ = some (.int .u32 V.a) ∧ wr.cell? ⟨g4, 1, none⟩ = some (.int .u32 V.b) ∧ wr.cell? ⟨g4, 2, none⟩ = some (.int .u32 V.c) ∧ wr.cell? ⟨g4, 3, none⟩ = some (.int .u32 V.d) ∧
                    wr.cell? ⟨g4, 4, none⟩ = some (.int .u32 V.e) ∧ wr.cell? ⟨g4, 5, none⟩ = some (.int .u32 V.f) ∧ wr.cell? ⟨g4, 6, none⟩ = some (.int .u32 V.g) ∧ wr.cell? ⟨g4, 7, none⟩ = some (.int .u32 V.h) := v8cells hX.v
                  have f0 := hX.v.free 0
                  have f1 := hX.v.free 1
                  have f2 := hX.v.free 2
                  have f3 := hX.v.free 3
                  have f4 := hX.v.free 4
                  have f5 := hX.v.free 5
                  have f6 := hX.v.free 6
                  have f7 := hX.v.free 7
                  have Hnext2 := hid (show blks p (n + 1) = addV (rnds V WS x) V by rw [Hnext.out, Hx64.out])
                  generalize rnds V WS x = U at *
                  clear Hx64
                  obtain ⟨a, b, c, d, e, f, g, h⟩ := U
                  obtain ⟨A, B, C, D, E, F, G, I⟩ := V
                  dsimp only at c0 c1 c2 c3 c4 c5 c6 c7 ⊢
                  have Hfin := hid ((((((((hX.setv 0 ((A + a) % 4294967296)).setv 1 ((B + b) % 4294967296)).setv 2 ((C + c) % 4294967296)).setv 3 ((D + d) % 4294967296)).setv 4 ((E + e) % 4294967296)).setv 5 ((F + f) % 4294967296)).setv 6 ((G + g) % 4294967296)).setv 7 ((I + h) % 4294967296))
                  go_wp2
                  go_roundw
                  case rel =>
                    refine ⟨n + 1, m + 64, WS, by omega, by go_num, by have := Hm.out; omega, ?_⟩
                    have hh := Hfin.out
                    have ee : ∀ (x y : Nat), ((x : Int) + (y : Int)) % 4294967296 = (((x + y) % 4294967296 : Nat) : Int) := fun x y => by omega
                    have hl : (addV ⟨a, b, c, d, e, f, g, h⟩ ⟨A, B, C, D, E, F, G, I⟩).l = [(A + a) % 4294967296, (B + b) % 4294967296, (C + c) % 4294967296, (D + d) % 4294967296, (E + e) % 4294967296, (F + f) % 4294967296, (G + g) % 4294967296, (I + h) % 4294967296] := by
                      simp [addV, V8.l, Nat.add_comm]
                    rw [Hnext2.out, hl, ee, ee, ee, ee, ee, ee, ee, ee]
                    exact hh
                  case measure => simp [intOf]; omega
    · have hnN : n = N := by omega
      have hmd : decide (m < p.length) = false := by simp; rw [Hp.out, hm, hnN]; omega
      have Hsum2 := hid (show sumL l = outL (blks p n) by rw [hnN]; exact Hsum.out)
      have hVok := blks_ok p n
      clear hm hn hlt hnN
      generalize blks p n = V at *
      have hB4 := hR.v
      have hB0 := hR.h0
      have hbl := hR.below
      have hlt4 := hR.v.lt
      have hlt0 := hR.h0.lt
      have hd := hR.d
      clear hR
      have hw0 : w.heap.size ≤ g0 := hd.1
      go_wp2
      have hG := Blk.new wr (hc zero32) 29
      have hB4' := hB4.alloc (.cells (hc zero32) 29)
      have hB0' := hB0.alloc (.cells (hc zero32) 29)
      have hbl' := hbl.alloc hbl.size (.cells (hc zero32) 29)
      obtain ⟨g24, hg24⟩ : ∃ g, wr.heap.size = g := ⟨_, rfl⟩
      have hne4 : g4 < g24 := by rw [← hg24]; exact hlt4
      have hne0 : g0 < g24 := by rw [← hg24]; exact hlt0
      have hwg : w.heap.size ≤ g24 := by omega
      rw [hg24] at hG
      simp only [hg24]
      clear hB4 hB0 hbl hlt4 hlt0 hg24
      go_loopw [25] (fun i wo => ∃ k : Nat, k ≤ 32 ∧ i = .int .i64 (k : Int) ∧ Blk wo g24 (hc ((outL V).take k ++ List.replicate (32 - k) 0)) 29 ∧ Blk wo g4 (rowOf uc V.l) 105 ∧ Blk wo g0 (hc zero32) 29 ∧ Below w.heap.size w wo) (fun i _ => 32 - (intOf i).toNat)
      case atStart => exact ⟨0, by omega, rfl, hG, hB4', hB0', hbl'⟩
      case round =>
        obtain ⟨k, hk, rfl, hB, h4, h0, hbw⟩ := hrel
        clear hG hB4' hB0' hbl'
        by_cases hlk : k < 32
        · obtain ⟨kq, hkq⟩ : ∃ j, k / 4 = j := ⟨_, rfl⟩
          obtain ⟨kr, hkr⟩ : ∃ j, k % 4 = j := ⟨_, rfl⟩
          obtain ⟨s, hs⟩ : ∃ j, 24 - 8 * kr = j := ⟨_, rfl⟩
          have e1 : (k : Int) / 4 = (kq : Int) := by omega
          have e2 : (k : Int) % 4 = (kr : Int) := by omega
          have e3 : 24 - 8 * (kr : Int) = (s : Int) := by omega
          have e4 : min (s : Int).toNat 32 = s := by omega
          have hs0 : 0 ≤ (s : Int) := by omega
          have hs1 : (s : Int) ≤ 32 := by omega
          have hq8 : (kq : Int) < 8 := by omega
          have hk32 : (k : Int) < 32 := by omega
          have c4 := h4.u32 kq (by rw [V8.len]; omega)
          have hxlt := v8_lt hVok kq
          have Hset := hid (out_set V k hlk)
          have Hs := hid (show s = 8 * (3 - k % 4) by omega)
          rw [hkq] at Hset
          generalize V.l.getD kq 0 = x at *
          have Hv := hid (show Value.int .u8 (((x : Int) / 2 ^ s) % 256) = bcell (UInt8.ofNat (x / 256 ^ (3 - k % 4) % 256)) by
            rw [← bcell_mk _ (by omega), Hs.out]
            congr 1
            rw [Int.natCast_emod, Int.natCast_ediv, Int.natCast_pow, show ((256 : Nat) : Int) = 256 from rfl, Int.pow_mul]
            rfl)
          have hst := hB.u8 k (by simp [outL_len]; omega)
          have hfr := hB.free k
          have Hfin := hid (hB.u8set k (UInt8.ofNat (x / 256 ^ (3 - k % 4) % 256)))
          generalize UInt8.ofNat (x / 256 ^ (3 - k % 4) % 256) = c at *
          clear hkq hkr hs
          go_wp2
          go_roundw
          case rel =>
            refine ⟨k + 1, by omega, by go_num, ?_, h4.setCell_ne (by show g24 ≠ g4; omega) _, h0.setCell_ne (by show g24 ≠ g0; omega) _, hbw.setCell (by show _ ≤ g24; omega) _⟩
            have hh := Hfin.out
            rw [Hset.out] at hh
            rw [Hv.out]
            exact hh
          case measure => simp [intOf]; omega
        · have hk32 : k = 32 := by omega
          have hkd : decide ((k : Int) < 32) = false := by simp; omega
          rw [hk32, Nat.sub_self, List.replicate_zero, List.append_nil, List.take_of_length_le (by rw [outL_len]; exact Nat.le_refl _)] at hB
          clear hk hlk hk32
          have Hh := hid (show (Tryd.prog.info? 29).map (·.size) = some (hc (outL V)).size by rw [hc_size, outL_len]; exact Tryd.sizeHash)
          have Hl9 := hid (show (hc (outL V)).size = (hc zero32).size by rw [hc_size, outL_len]; rfl)
          have HB := hid hB; clear hB
          go_wp2_with (first
            | ((with_reducible show wpList _ _ _ ({ dst := _, op := Op.load 29 _, type := _, pos := _, after := _, guard := _ } :: _) _ _); refine wpList_load_blk rfl 29 _ rfl g24 rfl _ (hc (outL V)) _ HB.out Tryd.underlying29 rfl Hh.out ?_)
            | ((with_reducible show wpList _ _ _ ({ dst := _, op := Op.store _ _ _, type := _, pos := _, after := _, guard := _ } :: _) _ _); refine wpList_store_blk rfl 29 _ _ rfl g0 rfl (hc (outL V)) rfl _ _ h0 Hl9.out Hh.out (hc_row_one _) ?_))
          have HB2 := h0.setRow (cs' := hc (outL V))
          refine bodyPost_ret (results_cell_row rfl _ _ g0 29 _ (0, 0) _ rfl HB2 Tryd.underlying29 rfl Hh.out) rfl ⟨by rw [Hsum2.out], ?_⟩
          exact hbw.setRow (by omega) _
end Go.Proofs.YtbpjlancjdbehaaDoor
