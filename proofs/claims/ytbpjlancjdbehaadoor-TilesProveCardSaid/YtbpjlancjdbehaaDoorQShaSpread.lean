/- sha.spread -/
import Derived.Test.YtbpjlancjdbehaaDoorQShaFill

set_option maxRecDepth 100000
namespace Go.Proofs.YtbpjlancjdbehaaDoor
open Go.RowKit Go.Spec
theorem word_get (b : List UInt8) (i : Nat) (h : 4 * i + 4 ≤ b.length) : beN ((b.take (4 * i + 4)).drop (4 * i)) = word b i := by
  have e : (b.take (4 * i + 4)).drop (4 * i) = [b.getD (4 * i) 0, b.getD (4 * i + 1) 0, b.getD (4 * i + 2) 0, b.getD (4 * i + 3) 0] := by
    apply List.ext_getElem
    · simp; omega
    · intro j h1 h2
      simp only [List.length_cons, List.length_nil] at h2
      rw [List.getElem_drop, List.getElem_take]
      rcases j with _ | _ | _ | _ | j
      · simp [List.getElem?_eq_getElem (show 4 * i < b.length by omega)]
      · simp [List.getElem?_eq_getElem (show 4 * i + 1 < b.length by omega)]
      · simp [List.getElem?_eq_getElem (show 4 * i + 2 < b.length by omega)]
      · simp [List.getElem?_eq_getElem (show 4 * i + 3 < b.length by omega)]
      · omega
  rw [e]
  simp [beN, word]
theorem set_next (ws : List Nat) (n x : Nat) : (ws ++ List.replicate (n + 1) 0).set ws.length x = (ws ++ [x]) ++ List.replicate n 0 := by
  rw [List.set_append_right _ _ (Nat.le_refl _)]
  simp [List.replicate_succ]
theorem getD_pre (ws : List Nat) (r : List Nat) (i : Nat) (h : i < ws.length) : (ws ++ r).getD i 0 = ws.getD i 0 := by
  rw [List.getD_eq_getElem?_getD, List.getD_eq_getElem?_getD, List.getElem?_append_left h]
theorem wsch_getD_lt (b : List UInt8) (n i : Nat) : (wsch b n).getD i 0 < 4294967296 := by
  rw [List.getD_eq_getElem?_getD]
  cases h : (wsch b n)[i]? with
  | none => simp
  | some x => exact wsch_lt b n x (List.mem_of_getElem? h)
theorem spread_val (a b x y : Nat) (hx : x < 4294967296) (hy : y < 4294967296) :
    ((a : Int) + (b : Int) + bits .xor .u32 (bits .xor .u32 ((rotr x 7 : Nat) : Int) ((rotr x 18 : Nat) : Int)) ((x : Int) / 8) + bits .xor .u32 (bits .xor .u32 ((rotr y 17 : Nat) : Int) ((rotr y 19 : Nat) : Int)) ((y : Int) / 1024)) % 4294967296
      = (((a + b + sg0 x + sg1 y) % 4294967296 : Nat) : Int) := by
  rw [show ((x : Int) / 8) = ((x / 8 : Nat) : Int) by omega, show ((y : Int) / 1024) = ((y / 1024 : Nat) : Int) by omega,
    bx3 _ _ _ (rotr_lt _ _ hx) (rotr_lt _ _ hx) (by omega), bx3 _ _ _ (rotr_lt _ _ hy) (rotr_lt _ _ hy) (by omega)]
  unfold sg0 sg1
  omega
theorem Tryd.size64 : (Tryd.prog.info? 130).map (·.size) = some 64 := by kernel_rfl
set_option maxHeartbeats 1000000 in
theorem spread_any (b : List UInt8) (w : World) (hb : b.length = 64) :
    Calls Tryd.prog 95 #[sv b] w fun e w' => e = .returned (.agg (rowOf uc (wsch b 64))) ∧ Below w.heap.size w w' := by
  have Hb := hid hb
  have hb1 : (64 : Int) ≤ (b.length : Int) := by omega
  have hb2 : b.length ≤ 64 := by omega
  clear hb
  go_enter Tryd.func95, Tryd.ntmps95
  go_wp2
  go_loopw [6] (fun i wr => ∃ k : Nat, k ≤ 64 ∧ i = .int .i64 k ∧ Blk wr w.heap.size (rowOf uc (wsch b k ++ List.replicate (64 - k) 0)) 130 ∧ Below w.heap.size w wr) (fun i _ => 64 - (intOf i).toNat)
  case atStart => exact ⟨0, by omega, rfl, Blk.new _ _ _, (Below.refl _ _).alloc (Nat.le_refl _) _⟩
  case round =>
    obtain ⟨k, hk, rfl, hB, hbw⟩ := hrel
    by_cases hlt : k < 64
    · have hlen : (wsch b k ++ List.replicate (64 - k) 0).length = 64 := by simp [wsch_len]; omega
      have hst := hB.u32 k (by omega)
      have hfr := hB.free k
      have Hset := hid (fun x => hB.u32set k x)
      have HN := hid (fun x => (show (wsch b k ++ List.replicate (64 - k) 0).set k x = (wsch b k ++ [x]) ++ List.replicate (64 - (k + 1)) 0 by
        have := set_next (wsch b k) (63 - k) x
        rw [wsch_len] at this
        rw [show 64 - k = 63 - k + 1 by omega, show 64 - (k + 1) = 63 - k by omega]; exact this))
      by_cases h16 : k < 16
      · have hd16 : decide ((k : Int) < 16) = true := by simp; omega
        have Hw := hid (word_get b k (by have := Hb.out; omega))
        have Hw2 := hid (show wsch b (k + 1) = wsch b k ++ [word b k] by rw [wsch, if_pos h16])
        have hwl := word_lt b k
        generalize (wsch b k ++ List.replicate (64 - k) 0).getD k 0 = z at *
        generalize hW : word b k = W at *
        have HWW := hid hW; clear hW
        clear hlen
        go_wp2_with (go_at_call 109; refine (get_any _ _ (by simp; omega)).mono ?_; rintro e w1 ⟨rfl, rfl⟩)
        rw [Hw.out, show ((W : Int) % 4294967296) = (W : Int) by omega]
        go_roundw
        case rel =>
          refine ⟨k + 1, by omega, by go_num, ?_, hbw.setCell (Nat.le_refl _) _⟩
          have := Hset.out W
          rw [HN.out W, ← Hw2.out] at this
          exact this
        case measure => simp [intOf]; omega
      · have hd16 : decide ((k : Int) < 16) = false := by simp; omega
        have Hw2 := hid (show wsch b (k + 1) = wsch b k ++ [wnew (wsch b k) k] by rw [wsch, if_neg h16])
        obtain ⟨j16, h16'⟩ : ∃ j, k - 16 = j := ⟨_, rfl⟩
        obtain ⟨j15, h15'⟩ : ∃ j, k - 15 = j := ⟨_, rfl⟩
        obtain ⟨j7, h7'⟩ : ∃ j, k - 7 = j := ⟨_, rfl⟩
        obtain ⟨j2, h2'⟩ : ∃ j, k - 2 = j := ⟨_, rfl⟩
        have e16 : (k : Int) - 16 = (j16 : Int) := by omega
        have e15 : (k : Int) - 15 = (j15 : Int) := by omega
        have e7 : (k : Int) - 7 = (j7 : Int) := by omega
        have e2 : (k : Int) - 2 = (j2 : Int) := by omega
        have l16 : j16 < k := by omega
        have l15 : j15 < k := by omega
        have l7 : j7 < k := by omega
        have l2 : j2 < k := by omega
        have m16 : (j16 : Int) < 64 := by omega
        have m15 : (j15 : Int) < 64 := by omega
        have m7 : (j7 : Int) < 64 := by omega
        have m2 : (j2 : Int) < 64 := by omega
        have c16 := hB.u32 j16 (by omega)
        have c15 := hB.u32 j15 (by omega)
        have c7 := hB.u32 j7 (by omega)
        have c2 := hB.u32 j2 (by omega)
        rw [getD_pre _ _ _ (by rw [wsch_len]; omega)] at c16 c15 c7 c2
        have hc16 : (rowOf uc (wsch b k ++ List.replicate (64 - k) 0))[j16]? = some (.int .u32 ((wsch b k).getD j16 0 : Nat)) := by rw [← hB.cell]; exact c16
        have hc7 : (rowOf uc (wsch b k ++ List.replicate (64 - k) 0))[j7]? = some (.int .u32 ((wsch b k).getD j7 0 : Nat)) := by rw [← hB.cell]; exact c7
        have hck : (rowOf uc (wsch b k ++ List.replicate (64 - k) 0))[k]? = some (.int .u32 ((wsch b k ++ List.replicate (64 - k) 0).getD k 0 : Nat)) := by rw [← hB.cell]; exact hst
        have Hc16 := hid hc16; have Hc7 := hid hc7; have Hck := hid hck
        clear hc16 hc7 hck
        have Hnew := hid (show wnew (wsch b k) k = ((wsch b k).getD j16 0 + (wsch b k).getD j7 0 + sg0 ((wsch b k).getD j15 0) + sg1 ((wsch b k).getD j2 0)) % 4294967296 by rw [wnew, h16', h15', h7', h2'])
        have b15 := wsch_getD_lt b k j15
        have b2 := wsch_getD_lt b k j2
        generalize (wsch b k).getD j16 0 = a16 at *
        generalize (wsch b k).getD j15 0 = a15 at *
        generalize (wsch b k).getD j7 0 = a7 at *
        generalize (wsch b k).getD j2 0 = a2 at *
        generalize (wsch b k ++ List.replicate (64 - k) 0).getD k 0 = z at *
        have Hval := hid (spread_val a16 a7 a15 a2 b15 b2)
        clear h16 h16' h15' h7' h2' hlen
        go_wp2
        go_quiet (fail)
        go_wp2_with fail
        have w16 := IntWalk.i64_in (j16 : Int) (by omega)
        have w7 := IntWalk.i64_in (j7 : Int) (by omega)
        refine wp_region_tail 29 (by kernel_rfl) (by kernel_rfl) ?_
        intro w1 he1 hb1
        simp only [List.take_succ_cons, List.take_zero, List.drop_succ_cons, List.drop_zero]
        have hB1 := hB.heap (w' := w1) he1
        have d16 := hB1.cell j16; rw [Hc16.out] at d16
        have d7 := hB1.cell j7; rw [Hc7.out] at d7
        have dk := hB1.cell k; rw [Hck.out] at dk
        have dfr := hB1.free k
        repeat (first | still_step | still_call (right_i _ _ _ b15 (by omega) (by omega)) | still_call (right_i _ _ _ b2 (by omega) (by omega)))
        refine wpStill_nil ?_
        go_wp2
        go_roundw
        case rel =>
          refine ⟨k + 1, by omega, by go_num, ?_, ((below_drewN hbw nq).trans (hb1.mono hbw.size)).setCell (Nat.le_refl _) _⟩
          have := hB1.u32set k (wnew (wsch b k) k)
          rw [HN.out, ← Hw2.out, Hnew.out, ← Hval.out] at this
          exact this
        case measure => simp [intOf]; omega
    · obtain rfl : k = 64 := by omega
      simp only [Nat.sub_self, List.replicate_zero, List.append_nil] at hB
      have Hs := hid (show (Tryd.prog.info? 130).map (·.size) = some (rowOf uc (wsch b 64)).size by rw [rowOf_size, wsch_len]; exact Tryd.size64)
      have HB := hid hB; clear hB
      go_wp2_with (first
        | ((with_reducible show wpList _ _ _ ({ dst := _, op := Op.load 130 _, type := _, pos := _, after := _, guard := _ } :: _) _ _); refine wpList_load_blk rfl 130 _ rfl _ rfl _ _ _ HB.out Tryd.underlying130 rfl Hs.out ?_)
        | ((with_reducible show wpList _ _ _ ({ dst := _, op := Op.store _ _ _, type := _, pos := _, after := _, guard := _ } :: _) _ _); refine wpList_store_blk rfl 130 _ _ rfl _ rfl _ rfl _ _ HB.out rfl Hs.out (uc_row_one _) ?_))
      have HB2 := HB.out.setRow (cs' := rowOf uc (wsch b 64))
      refine bodyPost_ret (results_cell_row rfl _ _ w.heap.size 130 _ (0, 0) _ rfl HB2 Tryd.underlying130 rfl Hs.out) rfl ⟨rfl, ?_⟩
      exact hbw.setRow (Nat.le_refl _) _
end Go.Proofs.YtbpjlancjdbehaaDoor
