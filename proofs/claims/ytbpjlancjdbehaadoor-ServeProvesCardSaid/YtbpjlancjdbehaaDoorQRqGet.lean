/- messages.GetRequest -/
import Derived.Test.YtbpjlancjdbehaaDoorQMsgNumbers
import Derived.Test.YtbpjlancjdbehaaDoorQReader

set_option maxRecDepth 100000
namespace Go.Proofs.YtbpjlancjdbehaaDoor
open Go.RowKit Go.Spec
theorem numberI_any (g : Nat) (x : Rds) (most : Nat) (m : Int) (hmm : m = (most : Int)) (w : World) (h : RdB w g x) (hl : x.1.length ≤ 1000000000) (hm : most ≤ 1073741824) :
    Calls Tryd.prog 77 #[.pointer (some ⟨g, 0, none⟩), .int .i64 m] w fun e w' => e = .returned (.int .i64 (nuN x most : Nat)) ∧ RdA w w' g (nuS x most) := by
  subst hmm
  exact number_any g x most w h hl hm
theorem beginG_any (l : List UInt8) (c : UInt8) (g : Nat) (w : World) (hg : w.heap.size = g) (hl : l.length ≤ 1000000000) :
    Calls Tryd.prog 76 #[sv l, sv [c]] w fun e w' => e = .returned (.pointer (some ⟨g, 0, none⟩)) ∧ RdB w' g (beS l c) ∧ Below w.heap.size w w' := by
  subst hg
  exact begin_any l c w hl
theorem Tryd.sizeRq : (Tryd.prog.info? 61).map (·.size) = some 5 := by kernel_rfl
def zeroRq : Rq := ⟨0, 0, 0, 0, 0⟩
def getRqV (o : Option Rq) : Value := match o with
  | some r => .tuple #[r.v, .int .i64 0]
  | none => .tuple #[zeroRq.v, .int .i64 10]
theorem Rq.cs_one (r : Rq) : ∀ v ∈ r.cs.toList, v.oneCell' = true := by
  intro v hv
  simp [Rq.cs] at hv
  rcases hv with rfl | rfl | rfl | rfl | rfl <;> rfl
theorem rq_step (id kd : Nat) (L : List Nat) (k : Nat) (hL : L.length = moreN kd) (hk : k < L.length) :
    ∃ j, (rqOf id kd []).at_[k + 2]? = some j ∧ (rqOf id kd (L.take k)).cs.setIfInBounds j (.int .i64 (L[k] : Nat)) = (rqOf id kd (L.take (k + 1))).cs ∧ j < 5 := by
  by_cases h2 : kd = 2
  · subst h2
    match L, hL with
    | [a, b, c], _ =>
      match k, hk with
      | 0, _ => exact ⟨2, rfl, rfl, by decide⟩
      | 1, _ => exact ⟨3, rfl, rfl, by decide⟩
      | 2, _ => exact ⟨4, rfl, rfl, by decide⟩
  · by_cases h3 : kd = 3
    · subst h3
      match L, hL with
      | [a, b], _ =>
        match k, hk with
        | 0, _ => exact ⟨2, rfl, rfl, by decide⟩
        | 1, _ => exact ⟨4, rfl, rfl, by decide⟩
    · by_cases h4 : kd = 4
      · subst h4
        match L, hL with
        | [a, b], _ =>
          match k, hk with
          | 0, _ => exact ⟨2, rfl, rfl, by decide⟩
          | 1, _ => exact ⟨4, rfl, rfl, by decide⟩
      · have : moreN kd = 0 := by unfold moreN; simp [h2, h3, h4]
        omega
theorem rq_at_len (id kd : Nat) : (rqOf id kd []).at_.length = moreN kd + 2 ∧ (rqOf id kd []).cs = #[.int .i64 (id : Int), .int .i64 (kd : Int), .int .i64 0, .int .i64 0, .int .i64 0] := by
  by_cases h2 : kd = 2
  · subst h2; exact ⟨rfl, rfl⟩
  · by_cases h3 : kd = 3
    · subst h3; exact ⟨rfl, rfl⟩
    · by_cases h4 : kd = 4
      · subst h4; exact ⟨rfl, rfl⟩
      · have e : rqOf id kd [] = ⟨id, kd, 0, 0, 0⟩ := by unfold rqOf; simp [h2, h3, h4]
        rw [e]
        refine ⟨?_, rfl⟩
        have h2' : ¬ (kd : Int) = 2 := by omega
        have h3' : ¬ ((kd : Int) = 3 ∨ (kd : Int) = 4) := by omega
        have : moreN kd = 0 := by unfold moreN; simp [h2, h3, h4]
        unfold Rq.at_
        simp only
        rw [if_neg h2', if_neg h3', this]
        rfl
theorem nusS_snoc : ∀ (k : Nat) (z : Rds), nusS (k + 1) z = nuS (nusS k z) 1073741824
  | 0, _ => rfl
  | k + 1, z => by rw [nusS, nusS_snoc k]; rfl
theorem nusL_get : ∀ (n : Nat) (z : Rds) (k : Nat) (h : k < (nusL n z).length), (nusL n z)[k] = nuN (nusS k z) 1073741824
  | n + 1, z, 0, _ => rfl
  | n + 1, z, k + 1, h => by
    simp only [nusL, List.getElem_cons_succ]
    exact nusL_get n (nuS z 1073741824) k (by simpa [nusL] using h)
  | 0, z, k, h => by simp [nusL] at h
theorem nusS_len (k : Nat) (z : Rds) : (nusS k z).1.length ≤ z.1.length := by
  induction k with
  | zero => exact Nat.le_refl _
  | succ k ih =>
    rw [nusS_snoc]
    exact Nat.le_trans (rdR_le _) ih
theorem rqOf_kind (id k : Nat) (l : List Nat) : (rqOf id k l).kind = k := by
  unfold rqOf
  split
  · rfl
  · split <;> rfl
set_option maxHeartbeats 8000000 in
theorem rqget_any (l : List UInt8) (w : World) (hl : l.length ≤ 1000000000) :
    Calls Tryd.prog 60 #[sv l] w fun e w' => e = .returned (getRqV (getRq l)) ∧ Below w.heap.size w w' := by
  have CB := hid (fun (w0 : World) (hg : w0.heap.size = w.heap.size + 1) => beginG_any l 81 (w.heap.size + 1) w0 hg hl)
  have HG := hid (show getRq l = if (nusS (moreN (nuN (nuS (beS l 81) 1073741824) 5)) (nuS (nuS (beS l 81) 1073741824) 5)).2 && (nusS (moreN (nuN (nuS (beS l 81) 1073741824) 5)) (nuS (nuS (beS l 81) 1073741824) 5)).1 == [] && decide (1 ≤ nuN (nuS (beS l 81) 1073741824) 5) then some (rqOf (nuN (beS l 81) 1073741824) (nuN (nuS (beS l 81) 1073741824) 5) (nusL (moreN (nuN (nuS (beS l 81) 1073741824) 5)) (nuS (nuS (beS l 81) 1073741824) 5))) else none from rfl)
  have hx0 : (beS l 81).1.length ≤ 1000000000 := by
    unfold beS
    split
    · cases hb : behind l 81 with
      | none => simp
      | some r => have := behind_some hb; subst this; simp at hl ⊢; omega
    · simp
  generalize getRq l = GV at *
  generalize beS l 81 = x0 at *
  have hid1 := nuN_le x0 1073741824
  have hx1 : (nuS x0 1073741824).1.length ≤ 1000000000 := Nat.le_trans (rdR_le _) hx0
  have C1 := hid (fun (w0 : World) (h : RdB w0 (w.heap.size + 1) x0) => numberI_any (w.heap.size + 1) x0 1073741824 1073741824 (by rfl) w0 h hx0 (by decide))
  generalize nuN x0 1073741824 = id at *
  generalize nuS x0 1073741824 = x1 at *
  have hkd := nuN_le x1 5
  have hx2 : (nuS x1 5).1.length ≤ 1000000000 := Nat.le_trans (rdR_le _) hx1
  have C2 := hid (fun (w0 : World) (h : RdB w0 (w.heap.size + 1) x1) => numberI_any (w.heap.size + 1) x1 5 5 (by rfl) w0 h hx1 (by decide))
  generalize nuN x1 5 = kd at *
  generalize nuS x1 5 = z at *
  have hbw0 := hid ((Below.refl _ w).alloc (Nat.le_refl _) (.cells zeroRq.cs 61))
  have HZ0 := hid (Blk.new w zeroRq.cs 61)
  have Hcs0 := hid (rq_at_len id kd).2
  have Hal := hid (rq_at_len id kd).1
  have HN3 := hid (moreN_le kd)
  go_enter Tryd.func60, Tryd.ntmps60
  go_upto_region 3 with (first
    | (go_at_call 76; refine (CB.out _ (by simp)).mono ?_; rintro e w1 ⟨rfl, hR1, hb1⟩; have HR1 := hid hR1; have Hb1 := hid hb1; clear hR1 hb1)
    | (go_at_call 77; with_reducible refine (C1.out _ HR1.out).mono ?_; rintro e w2 ⟨rfl, hA2⟩; have HA2 := hid hA2; clear hA2)
    | (go_at_call 77; with_reducible refine (C2.out _ HA2.out.at_).mono ?_; rintro e w3 ⟨rfl, hA3⟩; have HA3 := hid hA3; clear hA3))
  have h1s := Hb1.out.size
  have h2s := HA2.out.but.size
  have h3s := HA3.out.but.size
  have hg1 := Blk.lt HR1.out
  refine wp_world (fun W => Blk W w.heap.size zeroRq.cs 61 ∧ RdB W (w.heap.size + 1) z ∧ Blk W w3.heap.size (rqOf id kd []).cs 61 ∧ Below w.heap.size w W ∧ w3.heap.size < W.heap.size) ⟨?_, ?_, ?_, ?_, ?_⟩ ?_
  · exact (Blk.but (Blk.but (HZ0.out.later Hb1.out) HA2.out.but (by omega)) HA3.out.but (by omega)).alloc _
  · exact HA3.out.at_.alloc _
  · rw [Hcs0.out]; exact Blk.new _ _ _
  · have h0 : w.heap.size ≤ w1.heap.size := by omega
    exact (((hbw0.out.trans (Hb1.out.mono (by simp))).grown HA2.out.but h0 (fun k hk => by injection hk with hk; omega)).grown HA3.out.but (by omega) (fun k hk => by injection hk with hk; omega)).alloc (by omega) _
  · simp
  rintro w4 ⟨hZ4, hR4, hX4, hW4, hs4⟩
  have HZ4 := hid hZ4; have HR4 := hid hR4; have HX4 := hid hX4; have HW4 := hid hW4
  have hgx : w.heap.size + 1 < w3.heap.size := by omega
  clear hZ4 hR4 hX4 hW4 h1s h2s h3s hg1
  generalize hgxd : w3.heap.size = gx at *
  obtain ⟨N, hN⟩ : ∃ N, moreN kd = N := ⟨_, rfl⟩
  obtain ⟨L, hL⟩ : ∃ L, nusL N z = L := ⟨_, rfl⟩
  rw [hN] at HG Hal HN3
  have HLl := hid (show L.length = N by rw [← hL]; exact nusL_len N z)
  have HLg := hid (show ∀ k (h : k < L.length), L[k] = nuN (nusS k z) 1073741824 from fun k h => by subst hL; exact nusL_get N z k h)
  rw [hL] at HG
  have Hstep := hid (fun k (h : k < L.length) => rq_step id kd L k (by rw [hN]; exact HLl.out) h)
  have Hz := hid (fun k => Nat.le_trans (nusS_len k z) hx2)
  have hN3 := HN3.out
  have CN := hid (numbers_any gx 61 (rqOf id kd []) w4 HX4.out)
  rw [Hal.out] at CN
  generalize hat : (rqOf id kd []).at_ = AT at *
  clear hat hN hL hx0 hx1 hx2
  go_upto_region 3 with fail
  have hgx4 := hs4
  go_cut [16, 17, 18] (fun s m i wx => (∃ (A : Option Addr) (b c' : Nat), s = .slice A N c' ∧ m = .int .i64 (N : Int) ∧ i = .int .i64 0 ∧ N ≤ c' ∧ (0 < N → A = some ⟨b, 2, none⟩) ∧ w4.heap.size ≤ b ∧ b < wx.heap.size ∧ (∀ j u, (ptrs gx AT)[j]? = some u → wx.cell? ⟨b, j, none⟩ = some u)) ∧ Below w4.heap.size w4 wx)
  case first =>
    go_wp2_with (go_at_call 78; refine (CN.out).mono ?_; rintro e w5 ⟨⟨v5, rfl, hown5⟩, hb5⟩; obtain ⟨b, cap, rfl, hbb, hbl, hnc, hcell⟩ := ownsRow_some hown5 (by omega); have Hb5 := hid hb5; have Hcell := hid hcell; clear hown5 hb5 hcell)
    · go_meet
      rename_i hc
      exact ⟨⟨_, b, _, rfl, by go_num, rfl, by omega, fun h => (by omega), hbb, hbl, fun j u hj => by have := Hcell.out j u hj; rw [Addr.add_lit, Nat.zero_add] at this; exact this⟩, Hb5.out⟩
    · go_meet
      exact ⟨⟨_, b, _, rfl, by go_num, rfl, by omega, fun _ => rfl, hbb, hbl, fun j u hj => by have := Hcell.out j u hj; rw [Addr.add_lit, Nat.zero_add] at this; exact this⟩, Hb5.out⟩
  case rest =>
  obtain ⟨⟨A, b, c', rfl, rfl, rfl, hc', hA, hbb, hbl, hcell⟩, hbc⟩ := hcut
  have Hcell := hid hcell; have HA := hid hA; have Hbc := hid hbc
  clear hcell hA
  have hwc := hbc.size
  have HZc := hid (HZ4.out.later hbc); have HRc := hid (show RdB wc (w.heap.size + 1) z from Blk.later HR4.out hbc); have HXc := hid (HX4.out.later hbc)
  have HWc := hid (show Below w.heap.size w wc from HW4.out.trans (hbc.mono HW4.out.size))
  clear hbc CN CB C1 C2
  go_wp2_with fail
  go_loopw [18] (fun i wr => ∃ k : Nat, k ≤ N ∧ i = .int .i64 k ∧ RdB wr (w.heap.size + 1) (nusS k z) ∧ Blk wr gx (rqOf id kd (L.take k)).cs 61 ∧ Blk wr w.heap.size zeroRq.cs 61 ∧ Below w.heap.size w wr ∧ wc.heap.size ≤ wr.heap.size ∧ (∀ j u, (ptrs gx AT)[j]? = some u → wr.cell? ⟨b, j, none⟩ = some u)) (fun i _ => N - (intOf i).toNat)
  case atStart => exact ⟨0, by omega, rfl, HRc.out, by rw [List.take_zero]; exact HXc.out, HZc.out, HWc.out, Nat.le_refl _, Hcell.out⟩
  case round =>
    obtain ⟨k, hk, rfl, hR, hX, hZ, hW, hsz, hcl⟩ := hrel
    have HR := hid hR; have HX := hid hX; have HZ := hid hZ; have HW := hid hW; have Hcl := hid hcl
    clear hR hX hZ hW hcl
    by_cases hlt : k < N
    · have hkI : (k : Int) < (N : Int) := by omega
      have hA := HA.out (by omega)
      obtain ⟨j, hj1, hj2, hj5⟩ := Hstep.out k (by rw [HLl.out]; exact hlt)
      have Hj2 := hid hj2; clear hj2
      have hp : wr.cell? ⟨b, 2 + k, none⟩ = some (.pointer (some ⟨gx, j, none⟩)) := Hcl.out (2 + k) _ (ptrs_get gx AT (2 + k) j (by rw [Nat.add_comm]; exact hj1))
      have C3 := hid (fun (w0 : World) (h : RdB w0 (w.heap.size + 1) (nusS k z)) => numberI_any (w.heap.size + 1) (nusS k z) 1073741824 1073741824 (by rfl) w0 h (Hz.out k) (by decide))
      have Hsn := hid (nusS_snoc k z)
      rw [← Hsn.out] at C3
      rw [← HLg.out k (by rw [HLl.out]; exact hlt)] at C3
      have hLk : L[k]'(by rw [HLl.out]; exact hlt) ≤ 1073741824 := by rw [HLg.out k (by rw [HLl.out]; exact hlt)]; exact nuN_le _ _
      generalize (L[k]'(by rw [HLl.out]; exact hlt)) = n at *
      obtain ⟨old, hold⟩ : ∃ u, (rqOf id kd (L.take k)).cs[j]? = some u := ⟨_, Array.getElem?_eq_getElem (by simp [Rq.cs]; omega)⟩
      have Hold := hid hold; clear hold
      subst hA
      go_wp2_with (go_at_call 77; refine (C3.out _ HR.out).mono ?_; rintro e w6 ⟨rfl, hA6⟩; have HA6 := hid hA6; clear hA6; have HX6 := hid (Blk.but HX.out HA6.out.but (by omega)); have hc6 : w6.cell? ⟨gx, j, none⟩ = some old := (Blk.cell HX6.out j).trans Hold.out; have hf6 : w6.frozen? ⟨gx, j, none⟩ = false := Blk.free HX6.out j)
      go_roundw
      case rel =>
        have hlt0 := Blk.lt HX.out
        refine ⟨k + 1, by omega, by go_num, Blk.setCell_ne HA6.out.at_ (by simp; omega) _, ?_, Blk.setCell_ne (Blk.but HZ.out HA6.out.but (by omega)) (by simp; omega) _, ?_, ?_, ?_⟩
        · rw [← Hj2.out]; exact Blk.setCell HX6.out j _
        · have h0 : w.heap.size ≤ wr.heap.size := HW.out.size
          exact (HW.out.grown HA6.out.but h0 (fun q hq => by injection hq with hq; omega)).setCell (by show w.heap.size ≤ gx; omega) _
        · rw [setCell_size]; exact Nat.le_trans hsz HA6.out.but.size
        · intro j' u hu
          have h1 := HA6.out.but.cell (Hcl.out j' u hu) (by simp; omega)
          have h2 := (Below.refl b w6)
          unfold World.cell? at h1 ⊢
          rw [Below.heap_setCell _ _ _ _ (by show b ≠ gx; omega)]
          exact h1
      case measure => simp [intOf]; omega
    · obtain rfl : k = N := by omega
      have hLt : L.take k = L := List.take_of_length_le (by rw [HLl.out]; exact Nat.le_refl _)
      rw [hLt] at HX
      have ck : wr.cell? ⟨gx, 1, none⟩ = some (.int .i64 (kd : Int)) := (Blk.cell HX.out 1).trans (by show some (Value.int .i64 (rqOf id kd L).kind) = _; rw [rqOf_kind])
      have CE := hid (rend_any (w.heap.size + 1) (nusS k z) wr HR.out)
      have hgx5 := Blk.lt HX.out
      clear hLt HR
      obtain ⟨EB, hEB⟩ : ∃ EB, ((nusS k z).2 && (nusS k z).1 == []) = EB := ⟨_, rfl⟩
      rw [hEB] at CE HG
      clear hEB
      cases EB with
      | false =>
        have E := hid (show GV = none by rw [HG.out]; rfl)
        clear HG
        go_wp2_with (first
          | (go_at_call 79; refine (CE.out).mono ?_; rintro e w7 ⟨rfl, hb7⟩; have HZ7 := hid (HZ.out.later hb7))
          | ((with_reducible show wpList _ _ _ ({ dst := _, op := Op.store 61 _ _, type := _, pos := _, after := _, guard := _ } :: _) _ _); refine wpList_store_blk rfl 61 _ _ rfl w.heap.size rfl zeroRq.cs rfl zeroRq.cs 61 HZ7.out rfl Tryd.sizeRq (Rq.cs_one _) ?_))
        exact bodyPost_ret (results_cell2 rfl _ w.heap.size 61 zeroRq.cs (0, 0) _ rfl (setRow_get (cs := zeroRq.cs) HZ7.out) Tryd.underlying61 rfl Tryd.sizeRq) rfl ⟨by rw [E.out]; rfl, (HW.out.trans (hb7.mono HW.out.size)).setRow (Nat.le_refl _) _⟩
      | true =>
        by_cases hk1 : 1 ≤ kd
        · have E := hid (show GV = some (rqOf id kd L) by rw [HG.out, if_pos (by simp; exact hk1)])
          have d1 : decide ((kd : Int) < 1) = false := decide_eq_false (by omega)
          have d2 : decide (kd = 0) = false := decide_eq_false (by omega)
          clear HG hk1
          go_wp2_with (first
            | (go_at_call 79; refine (CE.out).mono ?_; rintro e w7 ⟨rfl, hb7⟩; have HZ7 := hid (HZ.out.later hb7); have HX7 := hid (HX.out.later hb7); have ck7 := (hb7.cell (p := ⟨gx, 1, none⟩) hgx5).trans ck)
            | ((with_reducible show wpList _ _ _ ({ dst := _, op := Op.load 61 _, type := _, pos := _, after := _, guard := _ } :: _) _ _); refine wpList_load_blk rfl 61 _ rfl gx rfl 61 (rqOf id kd L).cs _ HX7.out Tryd.underlying61 rfl Tryd.sizeRq ?_)
            | ((with_reducible show wpList _ _ _ ({ dst := _, op := Op.store 61 _ _, type := _, pos := _, after := _, guard := _ } :: _) _ _); refine wpList_store_blk rfl 61 _ _ rfl w.heap.size rfl (rqOf id kd L).cs rfl zeroRq.cs 61 HZ7.out rfl Tryd.sizeRq (Rq.cs_one _) ?_))
          exact bodyPost_ret (results_cell2 rfl _ w.heap.size 61 (rqOf id kd L).cs (0, 0) _ rfl (setRow_get (cs := (rqOf id kd L).cs) HZ7.out) Tryd.underlying61 rfl Tryd.sizeRq) rfl ⟨by rw [E.out]; rfl, (HW.out.trans (hb7.mono HW.out.size)).setRow (Nat.le_refl _) _⟩
        · have E := hid (show GV = none by rw [HG.out, if_neg (by simp; omega)])
          obtain rfl : kd = 0 := by omega
          clear HG hk1
          go_wp2_with (first
            | (go_at_call 79; refine (CE.out).mono ?_; rintro e w7 ⟨rfl, hb7⟩; have HZ7 := hid (HZ.out.later hb7); have ck7 := (hb7.cell (p := ⟨gx, 1, none⟩) hgx5).trans ck)
            | ((with_reducible show wpList _ _ _ ({ dst := _, op := Op.store 61 _ _, type := _, pos := _, after := _, guard := _ } :: _) _ _); refine wpList_store_blk rfl 61 _ _ rfl w.heap.size rfl zeroRq.cs rfl zeroRq.cs 61 HZ7.out rfl Tryd.sizeRq (Rq.cs_one _) ?_))
          exact bodyPost_ret (results_cell2 rfl _ w.heap.size 61 zeroRq.cs (0, 0) _ rfl (setRow_get (cs := zeroRq.cs) HZ7.out) Tryd.underlying61 rfl Tryd.sizeRq) rfl ⟨by rw [E.out]; rfl, (HW.out.trans (hb7.mono HW.out.size)).setRow (Nat.le_refl _) _⟩
end Go.Proofs.YtbpjlancjdbehaaDoor
