/- speculumref02.Parse -/
import Derived.Test.YtdllaenbkfajdaaDoorShaParse
set_option maxRecDepth 100000
namespace Go.Proofs.YtdllaenbkfajdaaDoor
open Go.RowKit Go.Spec
def vF (c : UInt8) : Int := match dval c with | some n => (n : Int) | none => -1
set_option maxHeartbeats 400000 in
theorem value_any (c : UInt8) (w : World) :
    Calls Tryd.prog 44 #[.int .u8 (c.toNat : Int)] w fun e w' => e = .returned (.int .i64 (vF c)) ∧ w' = w := by
  have hc := c.toNat_lt
  have hv : vF c = if 48 ≤ c.toNat ∧ c.toNat ≤ 57 then (c.toNat : Int) - 48 else if 97 ≤ c.toNat ∧ c.toNat ≤ 102 then (c.toNat : Int) - 87 else -1 := by
    unfold vF dval
    by_cases h1 : 48 ≤ c.toNat ∧ c.toNat ≤ 57
    · rw [if_pos h1, if_pos h1]; simp only; omega
    · rw [if_neg h1, if_neg h1]
      by_cases h2 : 97 ≤ c.toNat ∧ c.toNat ≤ 102
      · rw [if_pos h2, if_pos h2]; simp only; omega
      · rw [if_neg h2, if_neg h2]
  have Hv := hid hv
  clear hv
  generalize vF c = r at *
  generalize c.toNat = n at *
  by_cases h1 : 48 ≤ n
  · have d1 : decide (48 ≤ (n : Int)) = true := by simp; omega
    by_cases h2 : n ≤ 57
    · have d2 : decide ((n : Int) ≤ 57) = true := by simp; omega
      have HV := hid (show r = (n : Int) - 48 by rw [Hv.out, if_pos ⟨h1, h2⟩])
      go_enter Tryd.func44, Tryd.ntmps44
      go_wp2
      go_ret
      exact ⟨by rw [HV.out]; rfl, rfl⟩
    · have d2 : decide ((n : Int) ≤ 57) = false := by simp; omega
      by_cases h3 : 97 ≤ n
      · have d3 : decide (97 ≤ (n : Int)) = true := by simp; omega
        by_cases h4 : n ≤ 102
        · have d4 : decide ((n : Int) ≤ 102) = true := by simp; omega
          have HV := hid (show r = (n : Int) - 87 by rw [Hv.out, if_neg (by omega), if_pos ⟨h3, h4⟩])
          have e1 : (n : Int) - 97 + 10 = (n : Int) - 87 := by omega
          go_enter Tryd.func44, Tryd.ntmps44
          go_wp2
          go_ret
          refine ⟨?_, rfl⟩
          rw [HV.out]
          first | rfl | (show Ending.returned (.int .i64 _) = _; congr 2; omega)
        · have d4 : decide ((n : Int) ≤ 102) = false := by simp; omega
          have HV := hid (show r = -1 by rw [Hv.out, if_neg (by omega), if_neg (by omega)])
          go_enter Tryd.func44, Tryd.ntmps44
          go_wp2
          go_ret
          exact ⟨by rw [HV.out]; rfl, rfl⟩
      · have d3 : decide (97 ≤ (n : Int)) = false := by simp; omega
        have HV := hid (show r = -1 by rw [Hv.out, if_neg (by omega), if_neg (by omega)])
        go_enter Tryd.func44, Tryd.ntmps44
        go_wp2
        go_ret
        exact ⟨by rw [HV.out]; rfl, rfl⟩
  · have d1 : decide (48 ≤ (n : Int)) = false := by simp; omega
    have d3 : decide (97 ≤ (n : Int)) = false := by simp; omega
    have HV := hid (show r = -1 by rw [Hv.out, if_neg (by omega), if_neg (by omega)])
    go_enter Tryd.func44, Tryd.ntmps44
    go_wp2
    go_ret
    exact ⟨by rw [HV.out]; rfl, rfl⟩
theorem part_two (s : List UInt8) (k : Nat) (_hk : k < 32) : (part s (2 * k)).set k (byt (dv (s.getD (2 * k) 0)) (dv (s.getD (2 * k + 1) 0))) = part s (2 * (k + 1)) := by
  apply List.ext_getElem
  · simp [part_len]
  · intro j h1 h2
    rw [part_len] at h2
    have e1 := part_get s (2 * k) j h2
    have e2 := part_get s (2 * (k + 1)) j h2
    rw [List.getD_eq_getElem?_getD, List.getElem?_eq_getElem (by rw [part_len]; exact h2)] at e1 e2
    simp only [Option.getD_some] at e1 e2
    by_cases hj : k = j
    · subst hj
      rw [List.getElem_set_self, e2, if_pos (by omega)]
    · rw [List.getElem_set_ne hj, e1, e2]
      simp only [show (2 * j + 1 < 2 * (k + 1)) ↔ (2 * j + 1 < 2 * k) by omega, show (2 * j < 2 * (k + 1)) ↔ (2 * j < 2 * k) by omega]
theorem byt_cell (x n : Nat) (hx : x < 16) (hn : n < 16) : Value.int .u8 (((16 * x + n : Nat) : Int)) = bcell (byt x n) := by
  unfold bcell; rw [byt_nat x n hx hn]
set_option maxHeartbeats 2000000 in
theorem rparse_any (s : List UInt8) (w : World) (_hl : s.length ≤ 1000000000) :
    Calls Tryd.prog 26 #[sv s] w fun e w' => e = .returned (.tuple #[hv (prH s), .bool (prB s)]) ∧ Below w.heap.size w w' := by
  have Hsz := hid (show (Tryd.prog.info? 25).map (·.size) = some (hc zero32).size by rw [hc_size]; exact Tryd.sizeHash)
  by_cases h64 : s.length = 64
  · have Hp := hid (show prH s = (unhex s).getD zero32 ∧ prB s = (unhex s).isSome by unfold prH prB parseL; rw [if_pos h64]; exact ⟨rfl, rfl⟩)
    have ht : (((s.length : Int)) != 64) = false := by simp; omega
    have H64 := hid h64
    clear h64
    go_enter Tryd.func26, Tryd.ntmps26
    go_wp2
    have hB0 : Blk ((w.alloc (.cells (hc zero32) 25)).alloc (.cells (hc zero32) 25)) w.heap.size (hc zero32) 25 := (Blk.new w _ _).alloc _
    have hB1 : Blk ((w.alloc (.cells (hc zero32) 25)).alloc (.cells (hc zero32) 25)) (w.heap.size + 1) (hc zero32) 25 := Blk.new' _ _ _ (by simp)
    have hb0 : Below w.heap.size w ((w.alloc (.cells (hc zero32) 25)).alloc (.cells (hc zero32) 25)) := ((Below.refl _ w).alloc (Nat.le_refl _) _).alloc (by simp) _
    obtain ⟨g1, hg1⟩ : ∃ g, w.heap.size + 1 = g := ⟨_, rfl⟩
    rw [hg1] at hB1
    simp only [hg1]
    have Hg1 := hid hg1; clear hg1
    go_loopw [5] (fun i wr => ∃ k : Nat, k ≤ 32 ∧ i = .int .i64 (k : Int) ∧ (∀ j (h : j < s.length), j < 2 * k → (dval s[j]).isSome = true) ∧ Blk wr g1 (hc (part s (2 * k))) 25 ∧ Blk wr w.heap.size (hc zero32) 25 ∧ Below w.heap.size w wr) (fun i _ => 32 - (intOf i).toNat)
    case atStart => exact ⟨0, by omega, rfl, fun _ _ h => by omega, by rw [part_zero]; exact hB1, hB0, hb0⟩
    case round =>
      obtain ⟨k, hk, rfl, hall, hB, h0, hb⟩ := hrel
      clear hB0 hB1 hb0
      have Hall := hid hall; clear hall
      have hg0 : w.heap.size < g1 := by have := Hg1.out; omega
      have hsl : s.length = 64 := H64.out
      by_cases hlt : k < 32
      · have hks : 2 * k < s.length := by omega
        have hks1 : 2 * k + 1 < s.length := by omega
        have hgd0 : s.getD (2 * k) 0 = s[2 * k] := by rw [List.getD_eq_getElem?_getD, List.getElem?_eq_getElem hks]; rfl
        have hgd1 : s.getD (2 * k + 1) 0 = s[2 * k + 1] := by rw [List.getD_eq_getElem?_getD, List.getElem?_eq_getElem hks1]; rfl
        have Hpt := hid (part_two s k hlt)
        rw [hgd0, hgd1] at Hpt
        obtain ⟨j0, hj0⟩ : ∃ j, 2 * k = j := ⟨_, rfl⟩
        obtain ⟨j1, hj1⟩ : ∃ j, j0 + 1 = j := ⟨_, rfl⟩
        have q0 : 2 * (k : Int) = (j0 : Int) := by omega
        have q1 : IntKind.i64.wrap ((j0 : Int) + 1) = (j1 : Int) := by rw [IntWalk.i64_in _ (by omega)]; omega
        have q2 : IntKind.i64.wrap (j0 : Int) = (j0 : Int) := IntWalk.i64_in _ (by omega)
        have l0 : j0 < s.length := by omega
        have l1 : j1 < s.length := by omega
        have x0 : s[j0] = s[2 * k] := by simp only [hj0]
        have x1 : s[j1] = s[2 * k + 1] := by simp only [hj0, hj1]
        have Hbad0 := hid (fun h => unhex_bad 32 s (by omega) (2 * k) hks h)
        have Hbad1 := hid (fun h => unhex_bad 32 s (by omega) (2 * k + 1) hks1 h)
        have HallN := hid (show (dval s[2 * k]).isSome = true → (dval s[2 * k + 1]).isSome = true → ∀ j (h : j < s.length), j < 2 * (k + 1) → (dval s[j]).isSome = true from fun a b j h hj => by
          by_cases h1 : j = 2 * k
          · subst h1; exact a
          · by_cases h2 : j = 2 * k + 1
            · subst h2; exact b
            · exact Hall.out j h (by omega))
        have cst := hB.u8 k (by rw [part_len]; omega)
        have fst' := hB.free k
        have hk32 : (k : Int) < 32 := by omega
        have m0 : (j0 : Int) < (s.length : Int) := by omega
        have m1 : (j1 : Int) < (s.length : Int) := by omega
        have Hset := hid (fun x => hB.u8set k x)
        have Hx := hid (And.intro x0 x1)
        generalize s[2 * k] = c0 at *
        generalize s[2 * k + 1] = c1 at *
        clear hgd0 hgd1 hks hks1
        have hx0 : s[j0] = c0 := Hx.out.1
        have hx1 : s[j1] = c1 := Hx.out.2
        clear x0 x1 hj0 hj1
        have hsz : s.length ≤ 64 := by omega
        clear hsl
        cases hv0 : dval c0 with
        | none =>
          have e0 : vF c0 = -1 := by unfold vF; rw [hv0]
          have Hbad := hid (Hbad0.out hv0)
          have Hv0 := hid hv0; clear hv0
          go_wp2_with fail
          go_quiet ((go_at_call 44; exact Calls.quiet_of_same (value_any _ _)))
          go_wp2_with (first
            | ((with_reducible show wpList _ _ _ ({ dst := _, op := Op.build _ _, type := _, pos := _, after := _, guard := _ } :: _) _ _); refine wpList_build0 rfl 25 rfl (hv zero32) (Tryd.zeroHash _) ?_)
            | ((with_reducible show wpList _ _ _ ({ dst := _, op := Op.store _ _ _, type := _, pos := _, after := _, guard := _ } :: _) _ _); refine wpList_store_blk rfl 25 _ _ rfl w.heap.size rfl (hc zero32) rfl _ _ (h0.drewN nq) rfl Hsz.out (hc_row_one _) ?_))
          have HB2 := (h0.drewN nq).setRow (cs' := hc zero32)
          refine bodyPost_ret (results_cell2 rfl _ w.heap.size 25 (hc zero32) (0, 0) _ rfl HB2 Tryd.underlying25 rfl Hsz.out) rfl ⟨?_, (below_drewN hb nq).setRow (Nat.le_refl _) _⟩
          rw [Hp.out.1, Hp.out.2, Hbad.out]; rfl
        | some n0 =>
          have e0 : vF c0 = (n0 : Int) := by unfold vF; rw [hv0]
          have t0 : n0 < 16 := dval_lt _ _ hv0
          have hd0 : dv c0 = n0 := by unfold dv; rw [hv0]; rfl
          have hs0 : (dval c0).isSome = true := by rw [hv0]; rfl
          have Hd0 := hid (And.intro hd0 hs0)
          clear hd0 hs0 hv0
          cases hv1 : dval c1 with
          | none =>
            have e1 : vF c1 = -1 := by unfold vF; rw [hv1]
            have Hbad := hid (Hbad1.out hv1)
            have Hv1 := hid hv1; clear hv1
            go_wp2_with fail
            go_quiet ((go_at_call 44; exact Calls.quiet_of_same (value_any _ _)))
            go_wp2_with (first
              | ((with_reducible show wpList _ _ _ ({ dst := _, op := Op.build _ _, type := _, pos := _, after := _, guard := _ } :: _) _ _); refine wpList_build0 rfl 25 rfl (hv zero32) (Tryd.zeroHash _) ?_)
              | ((with_reducible show wpList _ _ _ ({ dst := _, op := Op.store _ _ _, type := _, pos := _, after := _, guard := _ } :: _) _ _); refine wpList_store_blk rfl 25 _ _ rfl w.heap.size rfl (hc zero32) rfl _ _ (h0.drewN nq) rfl Hsz.out (hc_row_one _) ?_))
            have HB2 := (h0.drewN nq).setRow (cs' := hc zero32)
            refine bodyPost_ret (results_cell2 rfl _ w.heap.size 25 (hc zero32) (0, 0) _ rfl HB2 Tryd.underlying25 rfl Hsz.out) rfl ⟨?_, (below_drewN hb nq).setRow (Nat.le_refl _) _⟩
            rw [Hp.out.1, Hp.out.2, Hbad.out]; rfl
          | some n1 =>
            have e1 : vF c1 = (n1 : Int) := by unfold vF; rw [hv1]
            have t1 : n1 < 16 := dval_lt _ _ hv1
            have hd1 : dv c1 = n1 := by unfold dv; rw [hv1]; rfl
            have HallF := hid (HallN.out Hd0.out.2 (by rw [hv1]; rfl))
            rw [Hd0.out.1, hd1] at Hpt
            have Hcell := hid (byt_cell n0 n1 t0 t1)
            clear hd1 hv1
            go_wp2_with fail
            go_quiet ((go_at_call 44; exact Calls.quiet_of_same (value_any _ _)))
            go_wp2
            go_roundw
            case rel =>
              refine ⟨k + 1, by omega, by go_num, HallF.out, ?_, (h0.drewN nq).setCell_ne (by show g1 ≠ _; omega) _, (below_drewN hb nq).setCell (by show _ ≤ g1; omega) _⟩
              have hh := (hB.drewN nq).u8set k (byt n0 n1)
              rw [Hpt.out, ← Hcell.out] at hh
              rw [show (16 * (n0 : Int) + (n1 : Int)) = ((16 * n0 + n1 : Nat) : Int) by omega]
              exact hh
            case measure => simp [intOf]; omega
      · have hk32 : k = 32 := by omega
        have Hun := hid (unhex_all s hsl (fun c hc => by
          obtain ⟨j, hj, rfl⟩ := List.getElem_of_mem hc
          exact Hall.out j hj (by omega)))
        have Hs2 := hid (show (Tryd.prog.info? 25).map (·.size) = some (hc (part s 64)).size by rw [hc_size, part_len]; exact Tryd.sizeHash)
        have Hl2 := hid (show (hc (part s 64)).size = (hc zero32).size by rw [hc_size, part_len]; rfl)
        have hkd : decide ((k : Int) < 32) = false := by simp; omega
        rw [hk32] at hB
        clear hk hlt hk32 hsl
        have HB := hid (show Blk wr g1 (hc (part s 64)) 25 from hB); clear hB
        go_wp2_with (first
          | ((with_reducible show wpList _ _ _ ({ dst := _, op := Op.load 25 _, type := _, pos := _, after := _, guard := _ } :: _) _ _); refine wpList_load_blk rfl 25 _ rfl g1 rfl _ (hc (part s 64)) _ HB.out Tryd.underlying25 rfl Hs2.out ?_)
          | ((with_reducible show wpList _ _ _ ({ dst := _, op := Op.store _ _ _, type := _, pos := _, after := _, guard := _ } :: _) _ _); refine wpList_store_blk rfl 25 _ _ rfl w.heap.size rfl (hc (part s 64)) rfl _ _ h0 Hl2.out Hs2.out (hc_row_one _) ?_))
        have HB2 := h0.setRow (cs' := hc (part s 64))
        refine bodyPost_ret (results_cell2 rfl _ w.heap.size 25 (hc (part s 64)) (0, 0) _ rfl HB2 Tryd.underlying25 rfl Hs2.out) rfl ⟨?_, hb.setRow (Nat.le_refl _) _⟩
        rw [Hp.out.1, Hp.out.2, Hun.out]; rfl
  · have Hp := hid (show prH s = zero32 ∧ prB s = false by unfold prH prB parseL; rw [if_neg h64]; exact ⟨rfl, rfl⟩)
    have ht : (((s.length : Int)) != 64) = true := by simp; omega
    clear h64
    have hb0 : Below w.heap.size w ((w.alloc (.cells (hc zero32) 25)).alloc (.cells (hc zero32) 25)) := ((Below.refl _ w).alloc (Nat.le_refl _) _).alloc (by simp) _
    go_enter Tryd.func26, Tryd.ntmps26
    go_wp2_with (first
      | ((with_reducible show wpList _ _ _ ({ dst := _, op := Op.load 25 _, type := _, pos := _, after := _, guard := _ } :: _) _ _); refine wpList_load_blk rfl 25 _ rfl (w.heap.size + 1) rfl _ (hc zero32) _ (Blk.new' _ _ _ (by simp)) Tryd.underlying25 rfl Hsz.out ?_)
      | ((with_reducible show wpList _ _ _ ({ dst := _, op := Op.store _ _ _, type := _, pos := _, after := _, guard := _ } :: _) _ _); refine wpList_store_blk rfl 25 _ _ rfl w.heap.size rfl (hc zero32) rfl _ _ ((Blk.new w (hc zero32) 25).alloc _) rfl Hsz.out (hc_row_one _) ?_))
    refine bodyPost_ret (results_cell2 rfl _ w.heap.size 25 (hc zero32) (0, 0) _ rfl (((Blk.new w (hc zero32) 25).alloc _).setRow) Tryd.underlying25 rfl Hsz.out) rfl ⟨?_, hb0.setRow (Nat.le_refl _) _⟩
    rw [Hp.out.1, Hp.out.2]; rfl
end Go.Proofs.YtdllaenbkfajdaaDoor
