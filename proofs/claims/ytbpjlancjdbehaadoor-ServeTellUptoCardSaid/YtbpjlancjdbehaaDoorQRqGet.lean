/- messages.GetRequest -/
import Derived.Test.YtbpjlancjdbehaaDoorQAnyOp
import Derived.Test.YtbpjlancjdbehaaDoorQMsgNumbers
import Derived.Test.YtbpjlancjdbehaaDoorQReader
import Derived.Test.YtbpjlancjdbehaaDoorQSg
import Derived.Test.YtbpjlancjdbehaaDoorQTileMap

set_option maxRecDepth 100000
namespace Go.Proofs.YtbpjlancjdbehaaDoor
open Go.RowKit Go.Spec
theorem numberI_any (g : Nat) (x : Rds) (most : Nat) (m : Int) (hmm : m = (most : Int)) (w : World) (h : RdB w g x) (hl : x.1.length ≤ 1000000000) (hm : most ≤ 1073741824) :
    Calls Tryd.prog 77 #[.pointer (some ⟨g, 0, none⟩), .int .i64 m] w fun e w' => e = .returned (.int .i64 (nuN x most : Nat)) ∧ RdA w w' g (nuS x most) := by
  subst hmm
  exact number_any g x most w h hl hm
theorem beginG_any (l : List UInt8) (c : UInt8) (g : Nat) (w : World) (hg : w.heap.size = g) (hl : l.length ≤ 1000000000) :
    Calls Tryd.prog 76 #[sv l, sv [c]] w fun e w' => e = .returned (.pointer (some ⟨g, 0, none⟩)) ∧ RdB w' g (beS l c) ∧ Below w.heap.size w w' := by
  subst hg
  exact begin_any l c w hl
theorem Tryd.sizeRq : (Tryd.prog.info? 61).map (·.size) = some 5 := by kernel_rfl
def zeroRq : Rq := ⟨0, 0, 0, 0, 0⟩
def getRqV (o : Option Rq) : Value := match o with
  | some r => .tuple #[r.v, .int .i64 0]
  | none => .tuple #[zeroRq.v, .int .i64 10]
theorem Rq.cs_one (r : Rq) : ∀ v ∈ r.cs.toList, v.oneCell' = true := by
  intro v hv
  simp [Rq.cs] at hv
  rcases hv with rfl | rfl | rfl | rfl | rfl <;> rfl
theorem rq_step (id kd : Nat) (L : List Nat) (k : Nat) (hL : L.length = moreN kd) (hk : k < L.length) :
    ∃ j, (rqOf id kd []).at_[k + 2]? = some j ∧ (rqOf id kd (L.take k)).cs.setIfInBounds j (.int .i64 (L[k] : Nat)) = (rqOf id kd (L.take (k + 1))).cs ∧ j < 5 := by
  by_cases h2 : kd = 2
  · subst h2
    match L, hL with
    | [a, b, c], _ =>
      match k, hk with
      | 0, _ => exact ⟨2, rfl, rfl, by decide⟩
      | 1, _ => exact ⟨3, rfl, rfl, by decide⟩
      | 2, _ => exact ⟨4, rfl, rfl, by decide⟩
  · by_cases h3 : kd = 3
    · subst h3
      match L, hL with
      | [a, b], _ =>
        match k, hk with
        | 0, _ => exact ⟨2, rfl, rfl, by decide⟩
        | 1, _ => exact ⟨4, rfl, rfl, by decide⟩
    · by_cases h4 : kd = 4
      · subst h4
        match L, hL with
        | [a, b], _ =>
          match k, hk with
          | 0, _ => exact ⟨2, rfl, rfl, by decide⟩
          | 1, _ => exact ⟨4, rfl, rfl, by decide⟩
      · have : moreN kd = 0 := by unfold moreN; simp [h2, h3, h4]
        omega
theorem rq_at_len (id kd : Nat) : (rqOf id kd []).at_.length = moreN kd + 2 ∧ (rqOf id kd []).cs = #[.int .i64 (id : Int), .int .i64 (kd : Int), .int .i64 0, .int .i64 0, .int .i64 0] := by
  by_cases h2 : kd = 2
  · subst h2; exact ⟨rfl, rfl⟩
  · by_cases h3 : kd = 3
    · subst h3; exact ⟨rfl, rfl⟩
    · by_cases h4 : kd = 4
      · subst h4; exact ⟨rfl, rfl⟩
      · have e : rqOf id kd [] = ⟨id, kd, 0, 0, 0⟩ := by unfold rqOf; simp [h2, h3, h4]
        rw [e]
        refine ⟨?_, rfl⟩
        have h2' : ¬ (kd : Int) = 2 := by omega
        have h3' : ¬ ((kd : Int) = 3 ∨ (kd : Int) = 4) := by omega
        have : moreN kd = 0 := by unfold moreN; simp [h2, h3, h4]
        unfold Rq.at_
        simp only
        rw [if_neg h2', if_neg h3', this]
        rfl
theorem nusS_snoc : ∀ (k : Nat) (z : Rds), nusS (k + 1) z = nuS (nusS k z) 1073741824
  | 0, _ => rfl
  | k + 1, z => by rw [nusS, nusS_snoc k]; rfl
theorem nusL_get : ∀ (n : Nat) (z : Rds) (k : Nat) (h : k < (nusL n z).length), (nusL n z)[k] = nuN (nusS k z) 1073741824
  | n + 1, z, 0, _ => rfl
  | n + 1, z, k + 1, h => by
    simp only [nusL, List.getElem_cons_succ]
    exact nusL_get n (nuS z 1073741824) k (by simpa [nusL] using h)
  | 0, z, k, h => by simp [nusL] at h
theorem nusS_len (k : Nat) (z : Rds) : (nusS k z).1.length ≤ z.1.length := by
  induction k with
  | zero => exact Nat.le_refl _
  | succ k ih =>
    rw [nusS_snoc]
    exact Nat.le_trans (rdR_le _) ih
theorem rqOf_kind (id k : Nat) (l : List Nat) : (rqOf id k l).kind = k := by
  unfold rqOf
  split
  · rfl
  · split <;> rfl
set_option maxHeartbeats 8000000 in
theorem rqget_any (l : List UInt8) (w : World) (hl : l.length ≤ 1000000000) :
    Calls Tryd.prog 60 #[sv l] w fun e w' => e = .returned (getRqV (getRq l)) ∧ Below w.heap.size w w' := by
  have CB := hid (fun (w0 : World) (hg : w0.heap.size = w.heap.size + 1) => beginG_any l 81 (w.heap.size + 1) w0 hg hl)
  have HG := hid (show getRq l = if (nusS (moreN (nuN (nuS (beS l 81) 1073741824) 5)) (nuS (nuS (beS l 81) 1073741824) 5)).2 && (nusS (moreN (nuN (nuS (beS l 81) 1073741824) 5)) (nuS (nuS (beS l 81) 1073741824) 5)).1 == [] && decide (1 ≤ nuN (nuS (beS l 81) 1073741824) 5) then some (rqOf (nuN (beS l 81) 1073741824) (nuN (nuS (beS l 81) 1073741824) 5) (nusL (moreN (nuN (nuS (beS l 81) 1073741824) 5)) (nuS (nuS (beS l 81) 1073741824) 5))) else none from rfl)
  have hx0 : (beS l 81).1.length ≤ 1000000000 := by
    unfold beS
    split
    · cases hb : behind l 81 with
      | none => simp
      | some r => have := behind_some hb; subst this; simp at hl ⊢; omega
    · simp
  generalize getRq l = GV at *
  generalize beS l 81 = x0 at *
  have hid1 := nuN_le x0 1073741824
  have hx1 : (nuS x0 1073741824).1.length ≤ 1000000000 := Nat.le_trans (rdR_le _) hx0
  have C1 := hid (fun (w0 : World) (h : RdB w0 (w.heap.size + 1) x0) => numberI_any (w.heap.size + 1) x0 1073741824 1073741824 (by rfl) w0 h hx0 (by decide))
  generalize nuN x0 1073741824 = id at *
  generalize nuS x0 1073741824 = x1 at *
  have hkd := nuN_le x1 5
  have hx2 : (nuS x1 5).1.length ≤ 1000000000 := Nat.le_trans (rdR_le _) hx1
  have C2 := hid (fun (w0 : World) (h : RdB w0 (w.heap.size + 1) x1) => numberI_any (w.heap.size + 1) x1 5 5 (by rfl) w0 h hx1 (by decide))
  generalize nuN x1 5 = kd at *
  generalize nuS x1 5 = z at *
  have hbw0 := hid ((Below.refl _ w).alloc (Nat.le_refl _) (.cells zeroRq.cs 61))
  have HZ0 := hid (Blk.new w zeroRq.cs 61)
  have Hcs0 := hid (rq_at_len id kd).2
  have Hal := hid (rq_at_len id kd).1
  have HN3 := hid (moreN_le kd)
  go_enter Tryd.func60, Tryd.ntmps60
  go_upto_region 3 with (first
    | (go_at_call 76; refine (CB.out _ (by simp)).mono ?_; rintro e w1 ⟨rfl, hR1, hb1⟩; have HR1 := hid hR1; have Hb1 := hid hb1; clear hR1 hb1)
    | (go_at_call 77; with_reducible refine (C1.out _ HR1.out).mono ?_; rintro e w2 ⟨rfl, hA2⟩; have HA2 := hid hA2; clear hA2)
    | (go_at_call 77; with_reducible refine (C2.out _ HA2.out.at_).mono ?_; rintro e w3 ⟨rfl, hA3⟩; have HA3 := hid hA3; clear hA3))
  have h1s := Hb1.out.size
  have h2s := HA2.out.but.size
  have h3s := HA3.out.but.size
  have hg1 := Blk.lt HR1.out
  refine wp_world (fun W => Blk W w.heap.size zeroRq.cs 61 ∧ RdB W (w.heap.size + 1) z ∧ Blk W w3.heap.size (rqOf id kd []).cs 61 ∧ Below w.heap.size w W ∧ w3.heap.size < W.heap.size) ⟨?_, ?_, ?_, ?_, ?_⟩ ?_
  · exact (Blk.but (Blk.but (HZ0.out.later Hb1.out) HA2.out.but (by omega)) HA3.out.but (by omega)).alloc _
  · exact HA3.out.at_.alloc _
  · rw [Hcs0.out]; exact Blk.new _ _ _
  · have h0 : w.heap.size ≤ w1.heap.size := by omega
    exact (((hbw0.out.trans (Hb1.out.mono (by simp))).grown HA2.out.but h0 (fun k hk => by injection hk with hk; omega)).grown HA3.out.but (by omega) (fun k hk => by injection hk with hk; omega)).alloc (by omega) _
  · simp
  rintro w4 ⟨hZ4, hR4, hX4, hW4, hs4⟩
  have HZ4 := hid hZ4; have HR4 := hid hR4; have HX4 := hid hX4; have HW4 := hid hW4
  have hgx : w.heap.size + 1 < w3.heap.size := by omega
  clear hZ4 hR4 hX4 hW4 h1s h2s h3s hg1
  generalize hgxd : w3.heap.size = gx at *
  obtain ⟨N, hN⟩ : ∃ N, moreN kd = N := ⟨_, rfl⟩
  obtain ⟨L, hL⟩ : ∃ L, nusL N z = L := ⟨_, rfl⟩
  rw [hN] at HG Hal HN3
  have HLl := hid (show L.length = N by rw [← hL]; exact nusL_len N z)
  have HLg := hid (show ∀ k (h : k < L.length), L[k] = nuN (nusS k z) 1073741824 from fun k h => by subst hL; exact nusL_get N z k h)
  rw [hL] at HG
  have Hstep := hid (fun k (h : k < L.length) => rq_step id kd L k (by rw [hN]; exact HLl.out) h)
  have Hz := hid (fun k => Nat.le_trans (nusS_len k z) hx2)
  have hN3 := HN3.out
  have CN := hid (numbers_any gx 61 (rqOf id kd []) w4 HX4.out)
  rw [Hal.out] at CN
  generalize hat : (rqOf id kd []).at_ = AT at *
  clear hat hN hL hx0 hx1 hx2
  go_upto_region 3 with fail
  have hgx4 := hs4
  go_cut [16, 17, 18] (fun s m i wx => (∃ (A : Option Addr) (b c' : Nat), s = .slice A N c' ∧ m = .int .i64 (N : Int) ∧ i = .int .i64 0 ∧ N ≤ c' ∧ (0 < N → A = some ⟨b, 2, none⟩) ∧ w4.heap.size ≤ b ∧ b < wx.heap.size ∧ (∀ j u, (ptrs gx AT)[j]? = some u → wx.cell? ⟨b, j, none⟩ = some u)) ∧ Below w4.heap.size w4 wx)
  case first =>
    go_wp2_with (go_at_call 78; refine (CN.out).mono ?_; rintro e w5 ⟨⟨v5, rfl, hown5⟩, hb5⟩; obtain ⟨b, cap, rfl, hbb, hbl, hnc, hcell⟩ := ownsRow_some hown5 (by omega); have Hb5 := hid hb5; have Hcell := hid hcell; clear hown5 hb5 hcell)
    · go_meet
      rename_i hc
      exact ⟨⟨_, b, _, rfl, by go_num, rfl, by omega, fun h => (by omega), hbb, hbl, fun j u hj => by have := Hcell.out j u hj; rw [Addr.add_lit, Nat.zero_add] at this; exact this⟩, Hb5.out⟩
    · go_meet
      exact ⟨⟨_, b, _, rfl, by go_num, rfl, by omega, fun _ => rfl, hbb, hbl, fun j u hj => by have := Hcell.out j u hj; rw [Addr.add_lit, Nat.zero_add] at this; exact this⟩, Hb5.out⟩
  case rest =>
  obtain ⟨⟨A, b, c', rfl, rfl, rfl, hc', hA, hbb, hbl, hcell⟩, hbc⟩ := hcut
  have Hcell := hid hcell; have HA := hid hA; have Hbc := hid hbc
  clear hcell hA
  have hwc := hbc.size
  have HZc := hid (HZ4.out.later hbc); have HRc := hid (show RdB wc (w.heap.size + 1) z from Blk.later HR4.out hbc); have HXc := hid (HX4.out.later hbc)
  have HWc := hid (show Below w.heap.size w wc from HW4.out.trans (hbc.mono HW4.out.size))
  clear hbc CN CB C1 C2
  go_wp2_with fail
  go_loopw [18] (fun i wr => ∃ k : Nat, k ≤ N ∧ i = .int .i64 k ∧ RdB wr (w.heap.size + 1) (nusS k z) ∧ Blk wr gx (rqOf id kd (L.take k)).cs 61 ∧ Blk wr w.heap.size zeroRq.cs 61 ∧ Below w.heap.size w wr ∧ wc.heap.size ≤ wr.heap.size ∧ (∀ j u, (ptrs gx AT)[j]? = some u → wr.cell? ⟨b, j, none⟩ = some u)) (fun i _ => N - (intOf i).toNat)
  case atStart => exact ⟨0, by omega, rfl, HRc.out, by rw [List.take_zero]; exact HXc.out, HZc.out, HWc.out, Nat.le_refl _, Hcell.out⟩
  case round =>
    obtain ⟨k, hk, rfl, hR, hX, hZ, hW, hsz, hcl⟩ := hrel
    have HR := hid hR; have HX := hid hX; have HZ := hid hZ; have HW := hid hW; have Hcl := hid hcl
    clear hR hX hZ hW hcl
    by_cases hlt : k < N
    · have hkI : (k : Int) < (N : Int) := by omega
      have hA := HA.out (by omega)
      obtain ⟨j, hj1, hj2, hj5⟩ := Hstep.out k (by rw [HLl.out]; exact hlt)
      have Hj2 := hid hj2; clear hj2
      have hp : wr.cell? ⟨b, 2 + k, none⟩ = some (.pointer (some ⟨gx, j, none⟩)) := Hcl.out (2 + k) _ (ptrs_get gx AT (2 + k) j (by rw [Nat.add_comm]; exact hj1))
      have C3 := hid (fun (w0 : World) (h : RdB w0 (w.heap.size + 1) (nusS k z)) => numberI_any (w.heap.size + 1) (nusS k z) 1073741824 1073741824 (by rfl) w0 h (Hz.out k) (by decide))
      have Hsn := hid (nusS_snoc k z)
      rw [← Hsn.out] at C3
      rw [← HLg.out k (by rw [HLl.out]; exact hlt)] at C3
      have hLk : L[k]'(by rw [HLl.out]; exact hlt) ≤ 1073741824 := by rw [HLg.out k (by rw [HLl.out]; exact hlt)]; exact nuN_le _ _
      generalize (L[k]'(by rw [HLl.out]; exact hlt)) = n at *
      obtain ⟨old, hold⟩ : ∃ u, (rqOf id kd (L.take k)).cs[j]? = some u := ⟨_, Array.getElem?_eq_getElem (by simp [Rq.cs]; omega)⟩
      have Hold := hid hold; clear hold
      subst hA
      go_wp2_with (go_at_call 77; refine (C3.out _ HR.out).mono ?_; rintro e w6 ⟨rfl, hA6⟩; have HA6 := hid hA6; clear hA6; have HX6 := hid (Blk.but HX.out HA6.out.but (by omega)); have hc6 : w6.cell? ⟨gx, j, none⟩ = some old := (Blk.cell HX6.out j).trans Hold.out; have hf6 : w6.frozen? ⟨gx, j, none⟩ = false := Blk.free HX6.out j)
      go_roundw
      case rel =>
        have hlt0 := Blk.lt HX.out
        refine ⟨k + 1, by omega, by go_num, Blk.setCell_ne HA6.out.at_ (by simp; omega) _, ?_, Blk.setCell_ne (Blk.but HZ.out HA6.out.but (by omega)) (by simp; omega) _, ?_, ?_, ?_⟩
        · rw [← Hj2.out]; exact Blk.setCell HX6.out j _
        · have h0 : w.heap.size ≤ wr.heap.size := HW.out.size
          exact (HW.out.grown HA6.out.but h0 (fun q hq => by injection hq with hq; omega)).setCell (by show w.heap.size ≤ gx; omega) _
        · rw [setCell_size]; exact Nat.le_trans hsz HA6.out.but.size
        · intro j' u hu
          have h1 := HA6.out.but.cell (Hcl.out j' u hu) (by simp; omega)
          have h2 := (Below.refl b w6)
          unfold World.cell? at h1 ⊢
          rw [Below.heap_setCell _ _ _ _ (by show b ≠ gx; omega)]
          exact h1
      case measure => simp [intOf]; omega
    · obtain rfl : k = N := by omega
      have hLt : L.take k = L := List.take_of_length_le (by rw [HLl.out]; exact Nat.le_refl _)
      rw [hLt] at HX
      have ck : wr.cell? ⟨gx, 1, none⟩ = some (.int .i64 (kd : Int)) := (Blk.cell HX.out 1).trans (by show some (Value.int .i64 (rqOf id kd L).kind) = _; rw [rqOf_kind])
      have CE := hid (rend_any (w.heap.size + 1) (nusS k z) wr HR.out)
      have hgx5 := Blk.lt HX.out
      clear hLt HR
      obtain ⟨EB, hEB⟩ : ∃ EB, ((nusS k z).2 && (nusS k z).1 == []) = EB := ⟨_, rfl⟩
      rw [hEB] at CE HG
      clear hEB
      cases EB with
      | false =>
        have E := hid (show GV = none by rw [HG.out]; rfl)
        clear HG
        go_wp2_with (first
          | (go_at_call 79; refine (CE.out).mono ?_; rintro e w7 ⟨rfl, hb7⟩; have HZ7 := hid (HZ.out.later hb7))
          | ((with_reducible show wpList _ _ _ ({ dst := _, op := Op.store 61 _ _, type := _, pos := _, after := _, guard := _ } :: _) _ _); refine wpList_store_blk rfl 61 _ _ rfl w.heap.size rfl zeroRq.cs rfl zeroRq.cs 61 HZ7.out rfl Tryd.sizeRq (Rq.cs_one _) ?_))
        exact bodyPost_ret (results_cell2 rfl _ w.heap.size 61 zeroRq.cs (0, 0) _ rfl (setRow_get (cs := zeroRq.cs) HZ7.out) Tryd.underlying61 rfl Tryd.sizeRq) rfl ⟨by rw [E.out]; rfl, (HW.out.trans (hb7.mono HW.out.size)).setRow (Nat.le_refl _) _⟩
      | true =>
        by_cases hk1 : 1 ≤ kd
        · have E := hid (show GV = some (rqOf id kd L) by rw [HG.out, if_pos (by simp; exact hk1)])
          have d1 : decide ((kd : Int) < 1) = false := decide_eq_false (by omega)
          have d2 : decide (kd = 0) = false := decide_eq_false (by omega)
          clear HG hk1
          go_wp2_with (first
            | (go_at_call 79; refine (CE.out).mono ?_; rintro e w7 ⟨rfl, hb7⟩; have HZ7 := hid (HZ.out.later hb7); have HX7 := hid (HX.out.later hb7); have ck7 := (hb7.cell (p := ⟨gx, 1, none⟩) hgx5).trans ck)
            | ((with_reducible show wpList _ _ _ ({ dst := _, op := Op.load 61 _, type := _, pos := _, after := _, guard := _ } :: _) _ _); refine wpList_load_blk rfl 61 _ rfl gx rfl 61 (rqOf id kd L).cs _ HX7.out Tryd.underlying61 rfl Tryd.sizeRq ?_)
            | ((with_reducible show wpList _ _ _ ({ dst := _, op := Op.store 61 _ _, type := _, pos := _, after := _, guard := _ } :: _) _ _); refine wpList_store_blk rfl 61 _ _ rfl w.heap.size rfl (rqOf id kd L).cs rfl zeroRq.cs 61 HZ7.out rfl Tryd.sizeRq (Rq.cs_one _) ?_))
          exact bodyPost_ret (results_cell2 rfl _ w.heap.size 61 (rqOf id kd L).cs (0, 0) _ rfl (setRow_get (cs := (rqOf id kd L).cs) HZ7.out) Tryd.underlying61 rfl Tryd.sizeRq) rfl ⟨by rw [E.out]; rfl, (HW.out.trans (hb7.mono HW.out.size)).setRow (Nat.le_refl _) _⟩
        · have E := hid (show GV = none by rw [HG.out, if_neg (by simp; omega)])
          obtain rfl : kd = 0 := by omega
          clear HG hk1
          go_wp2_with (first
            | (go_at_call 79; refine (CE.out).mono ?_; rintro e w7 ⟨rfl, hb7⟩; have HZ7 := hid (HZ.out.later hb7); have ck7 := (hb7.cell (p := ⟨gx, 1, none⟩) hgx5).trans ck)
            | ((with_reducible show wpList _ _ _ ({ dst := _, op := Op.store 61 _ _, type := _, pos := _, after := _, guard := _ } :: _) _ _); refine wpList_store_blk rfl 61 _ _ rfl w.heap.size rfl zeroRq.cs rfl zeroRq.cs 61 HZ7.out rfl Tryd.sizeRq (Rq.cs_one _) ?_))
          exact bodyPost_ret (results_cell2 rfl _ w.heap.size 61 zeroRq.cs (0, 0) _ rfl (setRow_get (cs := zeroRq.cs) HZ7.out) Tryd.underlying61 rfl Tryd.sizeRq) rfl ⟨by rw [E.out]; rfl, (HW.out.trans (hb7.mono HW.out.size)).setRow (Nat.le_refl _) _⟩
end Go.Proofs.YtbpjlancjdbehaaDoor
/- the document's GetRequest -/
namespace Go.Spec
open Go.RowKit
end Go.Spec
namespace Go.Proofs.YtbpjlancjdbehaaDoor
open Go.RowKit Go.Spec
theorem Tryd.infoInt : (Tryd.prog.info? 3).map (fun i => (i.zero, i.size, i.bytes)) = some (some (.int .i64 0), 1, 8) := by kernel_rfl
theorem Tryd.infoInt2 : (Tryd.prog.info? 3).map (fun i => (i.zero, i.size)) = some (some (.int .i64 0), 1) := by kernel_rfl
def ints (l : List Nat) : List Value := l.map fun (n : Nat) => .int .i64 (n : Int)
theorem ints_one (l : List Nat) : ∀ u ∈ ints l, u.oneCell' = true := by
  intro u hu
  simp only [ints, List.mem_map] at hu
  obtain ⟨j, _, rfl⟩ := hu
  rfl
theorem ints_snoc (l : List Nat) (n : Nat) : ints (l ++ [n]) = ints l ++ [.int .i64 (n : Int)] := by simp [ints]
set_option maxHeartbeats 4000000 in
theorem numbers17_any (s : List UInt8) (w : World) (hl : s.length ≤ 1000000000) :
    Calls Tryd.prog 84 #[sv s] w fun e w' => (∃ v, e = .returned v ∧ w'.ownsRow w.heap.size 3 1 v (refNs 5 s).length (ints (refNs 5 s))) ∧ Below w.heap.size w w' := by
  obtain ⟨i0, hi, hz0, hz1, hz2⟩ := info_parts Tryd.infoInt
  obtain ⟨F, hF⟩ : ∃ F, refNs 5 s = F := ⟨_, rfl⟩
  rw [hF]
  have HF := hid hF; clear hF
  have Hl := hid hl; clear hl
  go_enter Tryd.func84, Tryd.ntmps84
  go_wp2_with fail
  go_loopw [0, 3] (fun sv0 o wr => ∃ (D : List Nat) (S : List UInt8), sv0 = sv S ∧ S.length ≤ s.length ∧ D.length ≤ 5 ∧ F = D ++ refNs (5 - D.length) S ∧ wr.ownsRow w.heap.size 3 1 o D.length (ints D) ∧ Below w.heap.size w wr)
    (fun _ o _ => match o with | .slice _ n _ => 5 - n | _ => 0)
  case atStart => exact ⟨[], s, rfl, Nat.le_refl _, by simp, HF.out.symm, World.ownsRow_nil _ _ _ _, Below.refl _ _⟩
  case round =>
    obtain ⟨D, S, rfl, hS, hD, hF, hown, hb⟩ := hrel
    obtain ⟨oa, ocap, rfl, hoc⟩ := ownsRow_form hown
    have Hown := hid hown; have HFD := hid hF
    clear hown hF
    have HSl := hid (show S.length ≤ 9223372036854775807 by have := Hl.out; omega)
    by_cases h5 : D.length < 5
    · have d5 : decide ((D.length : Int) < 5) = true := decide_eq_true (by omega)
      have CR := hid (fun w0 => rread_gen S w0 HSl.out)
      have hRl := rdR_le S
      obtain ⟨m, hm⟩ : ∃ m, 5 - D.length = m + 1 := ⟨4 - D.length, by omega⟩
      have Hst := hid (show refNs (5 - D.length) S = if rdB S && decide (rdN S ≤ 1073741824) then rdN S :: refNs m (rdR S) else [] by rw [hm, refNs])
      have Hm := hid (show m = 5 - (D.length + 1) by omega)
      clear hm
      generalize rdN S = n at *
      generalize rdR S = R at *
      generalize rdB S = B at *
      cases B with
      | false =>
        have E := hid (show F = D by rw [HFD.out, Hst.out]; simp)
        go_wp2_with (go_at_call 102; refine (CR.out _).mono ?_; rintro e w2 ⟨rfl, hb2⟩)
        go_ret
        exact ⟨⟨_, rfl, by rw [E.out]; exact Hown.out.later hb2⟩, bth hb hb2⟩
      | true =>
        by_cases hn : n ≤ 1073741824
        · have d1 : decide ((1073741824 : Int) < (n : Int)) = false := decide_eq_false (by omega)
          have E := hid (show F = (D ++ [n]) ++ refNs (5 - (D ++ [n]).length) R by rw [HFD.out, Hst.out, if_pos (by simpa using hn), Hm.out]; simp)
          go_wp2_with (first
            | (go_at_call 102; refine (CR.out _).mono ?_; rintro e w2 ⟨rfl, hb2⟩; have Hown2 := hid (Hown.out.later hb2); have HB2 := hid (bth hb hb2))
            | (refine wpList_buildSlice_one rfl 124 3 _ rfl 1 (.int .i64 0) (.int .i64 (n : Int)) #[.int .i64 (n : Int)] rfl Tryd.underlying124 Tryd.infoInt2 rfl rfl (by decide) (by decide) ?_)
            | (at_builtin; go_must (refine wpList_app rfl _ _ 124 rfl w.heap.size 3 i0 (.int .i64 0) 1 8 Tryd.underlying124 hi hz0 hz1 hz2 rfl (by decide) _ D.length (ints D) rfl ?c1 ⟨w2.heap.size, 0, none⟩ 1 1 [.int .i64 (n : Int)] rfl ?c2 ?c3 ?c4 ?c5 ?c6 ?c7 ?_)))
          case c1 => exact Hown2.out.alloc _
          case c2 => rfl
          case c3 => exact row_alloc (cs := #[.int .i64 (n : Int)])
          case c4 => intro u hu; simp at hu; subst hu; rfl
          case c5 => unfold maxLen; omega
          case c6 => omega
          case c7 => have := HB2.out.size; simp; omega
          intro v9 w8 hown' hgrow hat
          have HB8 := hid ((HB2.out.alloc HB2.out.size (.cells #[.int .i64 (n : Int)] 3)).grown hgrow (by have := HB2.out.size; simp; omega) (fun q hq => (Hown2.out.lt q hq).1))
          rw [← ints_snoc] at hown'
          obtain ⟨oa2, oc2, rfl, _⟩ := ownsRow_form hown'
          have HownN := hid hown'
          clear hown' hgrow hat
          go_wp2
          go_roundw
          case rel => exact ⟨D ++ [n], R, rfl, by omega, by rw [List.length_append]; simp; omega, E.out, by rw [List.length_append]; exact HownN.out, HB8.out⟩
          case measure => show 5 - (D.length + 1) < 5 - D.length; omega
        · have d1 : decide ((1073741824 : Int) < (n : Int)) = true := decide_eq_true (by omega)
          have E := hid (show F = D by rw [HFD.out, Hst.out, if_neg (by simpa using hn)]; simp)
          clear hn
          go_wp2_with (go_at_call 102; refine (CR.out _).mono ?_; rintro e w2 ⟨rfl, hb2⟩)
          go_ret
          exact ⟨⟨_, rfl, by rw [E.out]; exact Hown.out.later hb2⟩, bth hb hb2⟩
    · have d5 : decide ((D.length : Int) < 5) = false := decide_eq_false (by omega)
      have E := hid (show F = D by rw [HFD.out, show 5 - D.length = 0 by omega]; simp [refNs])
      clear h5
      go_wp2
      go_ret
      exact ⟨⟨_, rfl, by rw [E.out]; exact Hown.out⟩, hb⟩
theorem refRq_def (l : List UInt8) : refRq l = if (refNs 5 (l.drop 1)).getD 1 0 = 2 then ⟨((refNs 5 (l.drop 1)).getD 0 0 : Nat), ((refNs 5 (l.drop 1)).getD 1 0 : Nat), ((refNs 5 (l.drop 1)).getD 2 0 : Nat), ((refNs 5 (l.drop 1)).getD 3 0 : Nat), ((refNs 5 (l.drop 1)).getD 4 0 : Nat)⟩ else if (refNs 5 (l.drop 1)).getD 1 0 = 3 ∨ (refNs 5 (l.drop 1)).getD 1 0 = 4 then ⟨((refNs 5 (l.drop 1)).getD 0 0 : Nat), ((refNs 5 (l.drop 1)).getD 1 0 : Nat), ((refNs 5 (l.drop 1)).getD 2 0 : Nat), 0, ((refNs 5 (l.drop 1)).getD 3 0 : Nat)⟩ else ⟨((refNs 5 (l.drop 1)).getD 0 0 : Nat), ((refNs 5 (l.drop 1)).getD 1 0 : Nat), 0, 0, 0⟩ := rfl
theorem getRq_is (l : List UInt8) : (putRq (refRq l) = some l → getRq l = some (refRq l)) ∧ (putRq (refRq l) ≠ some l → getRq l = none) := by
  constructor
  · intro h
    rw [getRq_put h, ← refRq_of h]
  · intro h
    cases hg : getRq l with
    | none => rfl
    | some r =>
      obtain ⟨h1, h2⟩ := refRq_yes hg
      rw [h1] at h
      exact absurd h2 h
theorem getRq_len {l : List UInt8} (h : ¬ (0 < l.length ∧ l.length ≤ 65536)) : getRq l = none := by
  cases hg : getRq l with
  | none => rfl
  | some r =>
    have := putRq_len (getRq_back hg).1
    omega
theorem getD_le (L : List Nat) (h : ∀ m ∈ L, m ≤ 1073741824) (j : Nat) : L.getD j 0 ≤ 1073741824 := by
  rw [List.getD_eq_getElem?_getD]
  cases hj : L[j]? with
  | none => simp
  | some m => exact h m (List.mem_of_getElem? hj)
theorem ints_zeros (L : List Nat) (j : Nat) (hj : j < 5) : (ints (L ++ [0, 0, 0, 0, 0]))[j]? = some (.int .i64 (L.getD j 0 : Nat)) := by
  unfold ints
  rw [List.getElem?_map, List.getD_eq_getElem?_getD]
  by_cases h : j < L.length
  · rw [List.getElem?_append_left h, List.getElem?_eq_getElem h]; rfl
  · rw [List.getElem?_append_right (by omega), List.getElem?_eq_none (by omega : L.length ≤ j)]
    obtain ⟨m, hm⟩ : ∃ m, j - L.length = m := ⟨_, rfl⟩
    rw [hm]
    have : m < 5 := by omega
    match m, this with
    | 0, _ => rfl
    | 1, _ => rfl
    | 2, _ => rfl
    | 3, _ => rfl
    | 4, _ => rfl
/-- the worlds in which a row of numbers stands -/
def RowC (b : Nat) (f : Nat → Nat) (w : World) : Prop := ∀ j, j < 5 → w.cell? ⟨b, j, none⟩ = some (.int .i64 (f j : Nat))
theorem RowC.later {b : Nat} {f : Nat → Nat} {w w' : World} (h : RowC b f w) (hb : b < w.heap.size) (hbw : Below w.heap.size w w') : RowC b f w' := fun j hj => (hbw.cell (p := ⟨b, j, none⟩) hb).trans (h j hj)
theorem RowC.heap {b : Nat} {f : Nat → Nat} {w w' : World} (h : RowC b f w) (he : w'.heap = w.heap) : RowC b f w' := fun j hj => by have := h j hj; unfold World.cell? at this ⊢; rw [he]; exact this
theorem RowC.set {b : Nat} {f : Nat → Nat} {w : World} (h : RowC b f w) {a : Addr} (hne : b ≠ a.block) (v : Value) : RowC b f (w.setCell a v) := fun j hj => by
  have := h j hj
  unfold World.cell? at this ⊢
  rw [Below.heap_setCell _ _ _ _ hne]
  exact this
set_option maxHeartbeats 8000000 in
theorem rrqget_any (l : List UInt8) (w : World) (hl : l.length ≤ 1000000000) :
    Calls Tryd.prog 62 #[sv l] w fun e w' => e = .returned (getRqV (getRq l)) ∧ Below w.heap.size w w' := by
  obtain ⟨i0, hi, hz0, hz1, hz2⟩ := info_parts Tryd.infoInt
  have HL0 := hid (@getRq_len l)
  have HGI := hid (getRq_is l)
  have HRD := hid (refRq_def l)
  have CN := hid (fun w0 => numbers17_any (l.drop 1) w0 (by rw [List.length_drop]; omega))
  obtain ⟨hL5, hLm⟩ := refNs_le 5 (l.drop 1)
  have HLm := hid hLm; clear hLm
  generalize refNs 5 (l.drop 1) = L at *
  generalize getRq l = GV at *
  generalize refRq l = r at *
  have hbw0 := hid ((Below.refl _ w).alloc (Nat.le_refl _) (.cells zeroRq.cs 61))
  have HZ0 := hid (Blk.new w zeroRq.cs 61)
  by_cases h0 : l.length = 0
  · obtain rfl : l = [] := List.eq_nil_of_length_eq_zero h0
    have E := hid (HL0.out (by simp))
    clear HL0 HGI HRD
    go_enter Tryd.func62, Tryd.ntmps62
    go_wp2_with ((with_reducible show wpList _ _ _ ({ dst := _, op := Op.store 61 _ _, type := _, pos := _, after := _, guard := _ } :: _) _ _); refine wpList_store_blk rfl 61 _ _ rfl w.heap.size rfl zeroRq.cs rfl zeroRq.cs 61 HZ0.out rfl Tryd.sizeRq (Rq.cs_one _) ?_)
    exact bodyPost_ret (results_cell2 rfl _ w.heap.size 61 zeroRq.cs (0, 0) _ rfl (setRow_get (cs := zeroRq.cs) HZ0.out) Tryd.underlying61 rfl Tryd.sizeRq) rfl ⟨by rw [E.out]; rfl, hbw0.out.setRow (Nat.le_refl _) _⟩
  have z0 : ((l.length : Int) == 0) = false := beq_eq_false_iff_ne.2 (by omega)
  by_cases h6 : 65536 < l.length
  · have d6 : decide ((65536 : Int) < (l.length : Int)) = true := decide_eq_true (by omega)
    have E := hid (HL0.out (by omega))
    clear HL0 HGI HRD h0 h6
    go_enter Tryd.func62, Tryd.ntmps62
    go_wp2_with ((with_reducible show wpList _ _ _ ({ dst := _, op := Op.store 61 _ _, type := _, pos := _, after := _, guard := _ } :: _) _ _); refine wpList_store_blk rfl 61 _ _ rfl w.heap.size rfl zeroRq.cs rfl zeroRq.cs 61 HZ0.out rfl Tryd.sizeRq (Rq.cs_one _) ?_)
    exact bodyPost_ret (results_cell2 rfl _ w.heap.size 61 zeroRq.cs (0, 0) _ rfl (setRow_get (cs := zeroRq.cs) HZ0.out) Tryd.underlying61 rfl Tryd.sizeRq) rfl ⟨by rw [E.out]; rfl, hbw0.out.setRow (Nat.le_refl _) _⟩
  have d6 : decide ((65536 : Int) < (l.length : Int)) = false := decide_eq_false (by omega)
  have hl1 : 1 ≤ l.length := by omega
  have hdr : l.drop 1 = l.tail := by simp
  rw [hdr] at CN
  clear hdr HL0 h6
  go_enter Tryd.func62, Tryd.ntmps62
  go_upto_region 4 with (first
    | (go_at_call 84; refine (CN.out _).mono ?_; rintro e w2 ⟨⟨v2, rfl, hown2⟩, hb2⟩; have Hown2 := hid (hown2.rebase (base' := w.heap.size + 1) (by simp)); have Hb2 := hid hb2; clear hown2 hb2)
    | (at_builtin; go_must (refine wpList_app rfl _ _ 124 rfl (w.heap.size + 1) 3 i0 (.int .i64 0) 1 8 Tryd.underlying124 hi hz0 hz1 hz2 rfl (by decide) _ L.length (ints L) rfl ?c1 ⟨w2.heap.size, 0, none⟩ 5 5 (ints [0, 0, 0, 0, 0]) rfl ?c2 ?c3 ?c4 ?c5 ?c6 ?c7 ?_)))
  case c1 => exact Hown2.out.alloc _
  case c2 => rfl
  case c3 => exact row_alloc (cs := #[.int .i64 0, .int .i64 0, .int .i64 0, .int .i64 0, .int .i64 0])
  case c4 => exact ints_one _
  case c5 => unfold maxLen; omega
  case c6 => omega
  case c7 => have := Hb2.out.size; simp at this ⊢; omega
  intro v9 w3 hown3 hgrow3 hat3
  have hW2 : Below w.heap.size w w2 := hbw0.out.trans (Hb2.out.mono (by simp))
  have hs2 : w.heap.size + 1 ≤ w2.heap.size := by have := Hb2.out.size; simp at this; omega
  have hW3 := (hW2.alloc hW2.size (.cells (ints [0, 0, 0, 0, 0]).toArray 3)).grown hgrow3 (by simp; omega) (fun q hq => by have := (Hown2.out.lt q hq).1; omega)
  have hZ3 : Blk w3 w.heap.size zeroRq.cs 61 := by
    have h1 := (HZ0.out.later Hb2.out).alloc (.cells (ints [0, 0, 0, 0, 0]).toArray 3)
    exact (hgrow3.block w.heap.size h1.lt (fun e => by have := (Hown2.out.lt w.heap.size e.symm).1; omega)).trans h1
  obtain ⟨b, cap, rfl, hbb, hbl, hnc, hcell⟩ := ownsRow_some hown3 (by omega)
  have hrow : RowC b (fun j => L.getD j 0) w3 := fun j hj => by
    have := hcell j _ (by rw [← show ints (L ++ [0, 0, 0, 0, 0]) = ints L ++ ints [0, 0, 0, 0, 0] by simp [ints]]; exact ints_zeros L j hj)
    rw [Addr.add_lit, Nat.zero_add] at this
    exact this
  have Hle := hid (getD_le L HLm.out)
  have Hrow := hid hrow; have HW3 := hid hW3; have HZ3 := hid hZ3
  obtain ⟨f, hf⟩ : ∃ f : Nat → Nat, f = fun j => L.getD j 0 := ⟨_, rfl⟩
  rw [← hf] at Hrow
  have HRDf := hid (show r = if f 1 = 2 then ⟨(f 0 : Nat), (f 1 : Nat), (f 2 : Nat), (f 3 : Nat), (f 4 : Nat)⟩ else if f 1 = 3 ∨ f 1 = 4 then ⟨(f 0 : Nat), (f 1 : Nat), (f 2 : Nat), 0, (f 3 : Nat)⟩ else ⟨(f 0 : Nat), (f 1 : Nat), 0, 0, 0⟩ by subst hf; exact HRD.out)
  have Hfle := hid (show ∀ j, f j ≤ 1073741824 from fun j => by subst hf; exact Hle.out j)
  clear hown3 hgrow3 hat3 hW3 hZ3 hcell hrow hf hW2 Hown2 HRD Hle
  have hbl3 := hbl
  have hW3s := HW3.out.size
  go_upto_region 4 with fail
  refine wp_region_anyD (RowC b f) (by kernel_rfl) ?_
  intro w4 he4 hb4
  have HC4 := hid (Hrow.out.heap he4)
  have HW4 := hid (HW3.out.trans (hb4.mono hW3s))
  have HZ4 := hid (HZ3.out.later hb4)
  have hbw4 : b < w4.heap.size := by rw [he4]; exact hbl
  clear he4 hb4
  show wpAnyC _ _ _ _ _ 9 (Array.replicate 9 false) _ _
  refine wpAnyC_take (i := 0) (v := .slice (some ⟨b, 0, none⟩) (L.length + 5) cap) rfl (by kernel_rfl) (by kernel_rfl) (by kernel_rfl) (fun _ _ _ h => h) (Or.inl ⟨by rfl, ?_⟩) ?_
  · intro w _
    go_simp
    try exact IntWalk.i64_in _ (by omega)
    try omega
  (first | dsimp only [List.getElem_toArray, List.getElem_cons_succ, List.getElem_cons_zero] | dsimp (maxSteps := 10000000) only [List.getElem_toArray, List.getElem_cons_succ, List.getElem_cons_zero] | skip); (first | go_frame | simp (maxSteps := 10000000) only [Act.put, List.setIfInBounds_toArray, List.set_cons_succ, List.set_cons_zero] | skip)
  refine wpAnyC_take (i := 1) (v := .pointer (some ⟨b, 0, none⟩)) rfl (by kernel_rfl) (by kernel_rfl) (by kernel_rfl) (fun _ _ _ h => h) (Or.inl ⟨by rfl, ?_⟩) ?_
  · intro w _
    go_simp
    try exact IntWalk.i64_in _ (by omega)
    try omega
  (first | dsimp only [List.getElem_toArray, List.getElem_cons_succ, List.getElem_cons_zero] | dsimp (maxSteps := 10000000) only [List.getElem_toArray, List.getElem_cons_succ, List.getElem_cons_zero] | skip); (first | go_frame | simp (maxSteps := 10000000) only [Act.put, List.setIfInBounds_toArray, List.set_cons_succ, List.set_cons_zero] | skip)
  refine wpAnyC_take (i := 2) (v := .int .i64 (f 0 : Nat)) rfl (by kernel_rfl) (by kernel_rfl) (by kernel_rfl) (fun _ _ _ h => h) (YieldsW.load_one (by rfl) 3 _ rfl ⟨b, 0, none⟩ rfl (.int .i64 (f 0 : Nat)) _ (fun w' hw' => hw' 0 (by decide)) Tryd.underlying3 rfl) ?_
  (first | dsimp only [List.getElem_toArray, List.getElem_cons_succ, List.getElem_cons_zero] | dsimp (maxSteps := 10000000) only [List.getElem_toArray, List.getElem_cons_succ, List.getElem_cons_zero] | skip); (first | go_frame | simp (maxSteps := 10000000) only [Act.put, List.setIfInBounds_toArray, List.set_cons_succ, List.set_cons_zero] | skip)
  refine wpAnyC_take (i := 3) (v := .slice (some ⟨b, 0, none⟩) (L.length + 5) cap) rfl (by kernel_rfl) (by kernel_rfl) (by kernel_rfl) (fun _ _ _ h => h) (Or.inl ⟨by rfl, ?_⟩) ?_
  · intro w _
    go_simp
    try exact IntWalk.i64_in _ (by omega)
    try omega
  (first | dsimp only [List.getElem_toArray, List.getElem_cons_succ, List.getElem_cons_zero] | dsimp (maxSteps := 10000000) only [List.getElem_toArray, List.getElem_cons_succ, List.getElem_cons_zero] | skip); (first | go_frame | simp (maxSteps := 10000000) only [Act.put, List.setIfInBounds_toArray, List.set_cons_succ, List.set_cons_zero] | skip)
  refine wpAnyC_take (i := 4) (v := .pointer (some ⟨b, 1, none⟩)) rfl (by kernel_rfl) (by kernel_rfl) (by kernel_rfl) (fun _ _ _ h => h) (Or.inl ⟨by rfl, ?_⟩) ?_
  · intro w _
    go_simp
    try exact IntWalk.i64_in _ (by omega)
    try omega
  (first | dsimp only [List.getElem_toArray, List.getElem_cons_succ, List.getElem_cons_zero] | dsimp (maxSteps := 10000000) only [List.getElem_toArray, List.getElem_cons_succ, List.getElem_cons_zero] | skip); (first | go_frame | simp (maxSteps := 10000000) only [Act.put, List.setIfInBounds_toArray, List.set_cons_succ, List.set_cons_zero] | skip)
  refine wpAnyC_take (i := 5) (v := .int .i64 (f 1 : Nat)) rfl (by kernel_rfl) (by kernel_rfl) (by kernel_rfl) (fun _ _ _ h => h) (YieldsW.load_one (by rfl) 3 _ rfl ⟨b, 1, none⟩ rfl (.int .i64 (f 1 : Nat)) _ (fun w' hw' => hw' 1 (by decide)) Tryd.underlying3 rfl) ?_
  (first | dsimp only [List.getElem_toArray, List.getElem_cons_succ, List.getElem_cons_zero] | dsimp (maxSteps := 10000000) only [List.getElem_toArray, List.getElem_cons_succ, List.getElem_cons_zero] | skip); (first | go_frame | simp (maxSteps := 10000000) only [Act.put, List.setIfInBounds_toArray, List.set_cons_succ, List.set_cons_zero] | skip)
  refine wpAnyC_take (i := 6) (v := .agg (Rq.cs ⟨(f 0 : Nat), (f 1 : Nat), 0, 0, 0⟩)) rfl (by kernel_rfl) (by kernel_rfl) (by kernel_rfl) (fun _ _ _ h => h) (YieldsW.buildP (by rfl) 61 _ rfl _ (fun w => by kernel_rfl)) ?_
  (first | dsimp only [List.getElem_toArray, List.getElem_cons_succ, List.getElem_cons_zero] | dsimp (maxSteps := 10000000) only [List.getElem_toArray, List.getElem_cons_succ, List.getElem_cons_zero] | skip); (first | go_frame | simp (maxSteps := 10000000) only [Act.put, List.setIfInBounds_toArray, List.set_cons_succ, List.set_cons_zero] | skip)
  refine wpAnyC_forced (i := 7) (by kernel_rfl) rfl (HC4.out) ?_
  (first | dsimp only [List.getElem_toArray, List.getElem_cons_succ, List.getElem_cons_zero] | dsimp (maxSteps := 10000000) only [List.getElem_toArray, List.getElem_cons_succ, List.getElem_cons_zero] | skip); (first | go_frame | simp (maxSteps := 10000000) only [Act.put, List.setIfInBounds_toArray, List.set_cons_succ, List.set_cons_zero] | skip)
  go_wp2_with fail
  show wpAnyC _ _ _ _ _ _ _ _ _
  (first | dsimp only [List.getElem_toArray, List.getElem_cons_succ, List.getElem_cons_zero] | dsimp (maxSteps := 10000000) only [List.getElem_toArray, List.getElem_cons_succ, List.getElem_cons_zero] | skip); (first | go_frame | simp (maxSteps := 10000000) only [Act.put, List.setIfInBounds_toArray, List.set_cons_succ, List.set_cons_zero] | skip)
  refine wpAnyC_forced (i := 8) (by kernel_rfl) rfl ((HC4.out.later hbw4 ((Below.refl _ _).alloc (Nat.le_refl _) _))) ?_
  (first | dsimp only [List.getElem_toArray, List.getElem_cons_succ, List.getElem_cons_zero] | dsimp (maxSteps := 10000000) only [List.getElem_toArray, List.getElem_cons_succ, List.getElem_cons_zero] | skip); (first | go_frame | simp (maxSteps := 10000000) only [Act.put, List.setIfInBounds_toArray, List.set_cons_succ, List.set_cons_zero] | skip)
  refine wpList_store_newA rfl 61 _ _ rfl rfl (Rq.cs ⟨(f 0 : Nat), (f 1 : Nat), 0, 0, 0⟩) rfl _ 61 rfl Tryd.sizeRq (Rq.cs_one _) ?_
  refine wpList_nil ?_
  show wpAnyC _ _ _ _ _ _ _ _ _
  (first | dsimp only [List.getElem_toArray, List.getElem_cons_succ, List.getElem_cons_zero] | dsimp (maxSteps := 10000000) only [List.getElem_toArray, List.getElem_cons_succ, List.getElem_cons_zero] | skip); (first | go_frame | simp (maxSteps := 10000000) only [Act.put, List.setIfInBounds_toArray, List.set_cons_succ, List.set_cons_zero] | skip)
  refine wpAnyC_done (by kernel_rfl) (HC4.out.later hbw4 ((Below.refl _ _).alloc (Nat.le_refl _) _)) ?_ _
  have hgx := HZ4.out.lt
  go_upto_region 5 with fail
  refine wp_world (fun W => RowC b f W ∧ b < W.heap.size ∧ Blk W w.heap.size zeroRq.cs 61 ∧ Below w.heap.size w W ∧ Blk W w4.heap.size (Rq.cs ⟨(f 0 : Nat), (f 1 : Nat), 0, 0, 0⟩) 61) ⟨HC4.out.later hbw4 ((Below.refl _ _).alloc (Nat.le_refl _) _), by simp; omega, HZ4.out.alloc _, HW4.out.alloc HW4.out.size _, Blk.new _ _ _⟩ ?_
  rintro w5 ⟨hC5, hb5, hZ5, hW5, hX5⟩
  have HC5 := hid hC5; have HZ5 := hid hZ5; have HW5 := hid hW5; have HX5 := hid hX5
  have hbx : b < w4.heap.size := hbw4
  have hxs := hX5.lt
  generalize hgxd : w4.heap.size = gx at *
  clear hC5 hZ5 hW5 hX5 HC4 HZ4 HW4 hgxd hbw4
  have hgxw : w.heap.size < gx := hgx
  have hwsz := HW5.out.size
  have c1 : w5.cell? ⟨gx, 1, none⟩ = some (.int .i64 (f 1 : Nat)) := Blk.cell HX5.out 1
  go_upto_if 31 with fail
  go_cut [] (fun wx => Blk wx gx r.cs 61 ∧ Blk wx w.heap.size zeroRq.cs 61 ∧ Below w.heap.size w wx)
  case first =>
    by_cases k2 : f 1 = 2
    · have HR := hid (show r = ⟨(f 0 : Nat), (f 1 : Nat), (f 2 : Nat), (f 3 : Nat), (f 4 : Nat)⟩ by rw [HRDf.out, if_pos k2])
      have e : ((f 1 : Int) == 2) = true := by simp; omega
      clear HRDf k2
      go_upto_region 6 with fail
      refine wp_region_anyD (RowC b f) (by kernel_rfl) ?_
      intro w6 he6 hb6
      have HC6 := hid (HC5.out.heap he6)
      have HX6 := hid (HX5.out.later hb6)
      have HZ6 := hid (HZ5.out.later hb6)
      have HW6 := hid (HW5.out.trans (hb6.mono hwsz))
      have hne : b ≠ gx := by omega
      have Hne := hid hne
      clear he6 hb6 c1 e hne
      have c2 : w6.cell? ⟨gx, 2, none⟩ = some (.int .i64 0) := Blk.cell HX6.out 2
      have c3 : w6.cell? ⟨gx, 3, none⟩ = some (.int .i64 0) := Blk.cell HX6.out 3
      have c4 : w6.cell? ⟨gx, 4, none⟩ = some (.int .i64 0) := Blk.cell HX6.out 4
      have g2 := Blk.free HX6.out 2
      have g3 := Blk.free HX6.out 3
      have g4 := Blk.free HX6.out 4
      show wpAnyC _ _ _ _ _ 15 (Array.replicate 15 false) _ _
      refine wpAnyC_take (i := 0) (v := .slice (some ⟨b, 0, none⟩) (L.length + 5) cap) rfl (by kernel_rfl) (by kernel_rfl) (by kernel_rfl) (fun _ _ _ h => h) (Or.inl ⟨by rfl, ?_⟩) ?_
      · intro w _
        go_simp
        try exact IntWalk.i64_in _ (by omega)
        try omega
      (first | dsimp only [List.getElem_toArray, List.getElem_cons_succ, List.getElem_cons_zero] | dsimp (maxSteps := 10000000) only [List.getElem_toArray, List.getElem_cons_succ, List.getElem_cons_zero] | skip); (first | go_frame | simp (maxSteps := 10000000) only [Act.put, List.setIfInBounds_toArray, List.set_cons_succ, List.set_cons_zero] | skip)
      refine wpAnyC_take (i := 1) (v := .pointer (some ⟨b, 2, none⟩)) rfl (by kernel_rfl) (by kernel_rfl) (by kernel_rfl) (fun _ _ _ h => h) (Or.inl ⟨by rfl, ?_⟩) ?_
      · intro w _
        go_simp
        try exact IntWalk.i64_in _ (by omega)
        try omega
      (first | dsimp only [List.getElem_toArray, List.getElem_cons_succ, List.getElem_cons_zero] | dsimp (maxSteps := 10000000) only [List.getElem_toArray, List.getElem_cons_succ, List.getElem_cons_zero] | skip); (first | go_frame | simp (maxSteps := 10000000) only [Act.put, List.setIfInBounds_toArray, List.set_cons_succ, List.set_cons_zero] | skip)
      refine wpAnyC_take (i := 2) (v := .int .i64 (f 2 : Nat)) rfl (by kernel_rfl) (by kernel_rfl) (by kernel_rfl) (fun _ _ _ h => h) (YieldsW.load_one (by rfl) 3 _ rfl ⟨b, 2, none⟩ rfl (.int .i64 (f 2 : Nat)) _ (fun w' hw' => hw' 2 (by decide)) Tryd.underlying3 rfl) ?_
      (first | dsimp only [List.getElem_toArray, List.getElem_cons_succ, List.getElem_cons_zero] | dsimp (maxSteps := 10000000) only [List.getElem_toArray, List.getElem_cons_succ, List.getElem_cons_zero] | skip); (first | go_frame | simp (maxSteps := 10000000) only [Act.put, List.setIfInBounds_toArray, List.set_cons_succ, List.set_cons_zero] | skip)
      refine wpAnyC_take (i := 3) (v := .slice (some ⟨b, 0, none⟩) (L.length + 5) cap) rfl (by kernel_rfl) (by kernel_rfl) (by kernel_rfl) (fun _ _ _ h => h) (Or.inl ⟨by rfl, ?_⟩) ?_
      · intro w _
        go_simp
        try exact IntWalk.i64_in _ (by omega)
        try omega
      (first | dsimp only [List.getElem_toArray, List.getElem_cons_succ, List.getElem_cons_zero] | dsimp (maxSteps := 10000000) only [List.getElem_toArray, List.getElem_cons_succ, List.getElem_cons_zero] | skip); (first | go_frame | simp (maxSteps := 10000000) only [Act.put, List.setIfInBounds_toArray, List.set_cons_succ, List.set_cons_zero] | skip)
      refine wpAnyC_take (i := 4) (v := .pointer (some ⟨b, 3, none⟩)) rfl (by kernel_rfl) (by kernel_rfl) (by kernel_rfl) (fun _ _ _ h => h) (Or.inl ⟨by rfl, ?_⟩) ?_
      · intro w _
        go_simp
        try exact IntWalk.i64_in _ (by omega)
        try omega
      (first | dsimp only [List.getElem_toArray, List.getElem_cons_succ, List.getElem_cons_zero] | dsimp (maxSteps := 10000000) only [List.getElem_toArray, List.getElem_cons_succ, List.getElem_cons_zero] | skip); (first | go_frame | simp (maxSteps := 10000000) only [Act.put, List.setIfInBounds_toArray, List.set_cons_succ, List.set_cons_zero] | skip)
      refine wpAnyC_take (i := 5) (v := .int .i64 (f 3 : Nat)) rfl (by kernel_rfl) (by kernel_rfl) (by kernel_rfl) (fun _ _ _ h => h) (YieldsW.load_one (by rfl) 3 _ rfl ⟨b, 3, none⟩ rfl (.int .i64 (f 3 : Nat)) _ (fun w' hw' => hw' 3 (by decide)) Tryd.underlying3 rfl) ?_
      (first | dsimp only [List.getElem_toArray, List.getElem_cons_succ, List.getElem_cons_zero] | dsimp (maxSteps := 10000000) only [List.getElem_toArray, List.getElem_cons_succ, List.getElem_cons_zero] | skip); (first | go_frame | simp (maxSteps := 10000000) only [Act.put, List.setIfInBounds_toArray, List.set_cons_succ, List.set_cons_zero] | skip)
      refine wpAnyC_take (i := 6) (v := .slice (some ⟨b, 0, none⟩) (L.length + 5) cap) rfl (by kernel_rfl) (by kernel_rfl) (by kernel_rfl) (fun _ _ _ h => h) (Or.inl ⟨by rfl, ?_⟩) ?_
      · intro w _
        go_simp
        try exact IntWalk.i64_in _ (by omega)
        try omega
      (first | dsimp only [List.getElem_toArray, List.getElem_cons_succ, List.getElem_cons_zero] | dsimp (maxSteps := 10000000) only [List.getElem_toArray, List.getElem_cons_succ, List.getElem_cons_zero] | skip); (first | go_frame | simp (maxSteps := 10000000) only [Act.put, List.setIfInBounds_toArray, List.set_cons_succ, List.set_cons_zero] | skip)
      refine wpAnyC_take (i := 7) (v := .pointer (some ⟨b, 4, none⟩)) rfl (by kernel_rfl) (by kernel_rfl) (by kernel_rfl) (fun _ _ _ h => h) (Or.inl ⟨by rfl, ?_⟩) ?_
      · intro w _
        go_simp
        try exact IntWalk.i64_in _ (by omega)
        try omega
      (first | dsimp only [List.getElem_toArray, List.getElem_cons_succ, List.getElem_cons_zero] | dsimp (maxSteps := 10000000) only [List.getElem_toArray, List.getElem_cons_succ, List.getElem_cons_zero] | skip); (first | go_frame | simp (maxSteps := 10000000) only [Act.put, List.setIfInBounds_toArray, List.set_cons_succ, List.set_cons_zero] | skip)
      refine wpAnyC_take (i := 8) (v := .int .i64 (f 4 : Nat)) rfl (by kernel_rfl) (by kernel_rfl) (by kernel_rfl) (fun _ _ _ h => h) (YieldsW.load_one (by rfl) 3 _ rfl ⟨b, 4, none⟩ rfl (.int .i64 (f 4 : Nat)) _ (fun w' hw' => hw' 4 (by decide)) Tryd.underlying3 rfl) ?_
      (first | dsimp only [List.getElem_toArray, List.getElem_cons_succ, List.getElem_cons_zero] | dsimp (maxSteps := 10000000) only [List.getElem_toArray, List.getElem_cons_succ, List.getElem_cons_zero] | skip); (first | go_frame | simp (maxSteps := 10000000) only [Act.put, List.setIfInBounds_toArray, List.set_cons_succ, List.set_cons_zero] | skip)
      refine wpAnyC_take (i := 9) (v := .pointer (some ⟨gx, 2, none⟩)) rfl (by kernel_rfl) (by kernel_rfl) (by kernel_rfl) (fun _ _ _ h => h) (Or.inl ⟨by rfl, ?_⟩) ?_
      · intro w _
        go_simp
        try exact IntWalk.i64_in _ (by omega)
        try omega
      (first | dsimp only [List.getElem_toArray, List.getElem_cons_succ, List.getElem_cons_zero] | dsimp (maxSteps := 10000000) only [List.getElem_toArray, List.getElem_cons_succ, List.getElem_cons_zero] | skip); (first | go_frame | simp (maxSteps := 10000000) only [Act.put, List.setIfInBounds_toArray, List.set_cons_succ, List.set_cons_zero] | skip)
      refine wpAnyC_forced (i := 10) (by kernel_rfl) rfl (HC6.out) ?_
      (first | dsimp only [List.getElem_toArray, List.getElem_cons_succ, List.getElem_cons_zero] | dsimp (maxSteps := 10000000) only [List.getElem_toArray, List.getElem_cons_succ, List.getElem_cons_zero] | skip); (first | go_frame | simp (maxSteps := 10000000) only [Act.put, List.setIfInBounds_toArray, List.set_cons_succ, List.set_cons_zero] | skip)
      go_wp2_with fail
      show wpAnyC _ _ _ _ _ _ _ _ _
      (first | dsimp only [List.getElem_toArray, List.getElem_cons_succ, List.getElem_cons_zero] | dsimp (maxSteps := 10000000) only [List.getElem_toArray, List.getElem_cons_succ, List.getElem_cons_zero] | skip); (first | go_frame | simp (maxSteps := 10000000) only [Act.put, List.setIfInBounds_toArray, List.set_cons_succ, List.set_cons_zero] | skip)
      refine wpAnyC_take (i := 11) (v := .pointer (some ⟨gx, 3, none⟩)) rfl (by kernel_rfl) (by kernel_rfl) (by kernel_rfl) (fun _ _ _ h => h) (Or.inl ⟨by rfl, ?_⟩) ?_
      · intro w _
        go_simp
        try exact IntWalk.i64_in _ (by omega)
        try omega
      (first | dsimp only [List.getElem_toArray, List.getElem_cons_succ, List.getElem_cons_zero] | dsimp (maxSteps := 10000000) only [List.getElem_toArray, List.getElem_cons_succ, List.getElem_cons_zero] | skip); (first | go_frame | simp (maxSteps := 10000000) only [Act.put, List.setIfInBounds_toArray, List.set_cons_succ, List.set_cons_zero] | skip)
      refine wpAnyC_forced (i := 12) (by kernel_rfl) rfl ((HC6.out.set Hne.out _)) ?_
      (first | dsimp only [List.getElem_toArray, List.getElem_cons_succ, List.getElem_cons_zero] | dsimp (maxSteps := 10000000) only [List.getElem_toArray, List.getElem_cons_succ, List.getElem_cons_zero] | skip); (first | go_frame | simp (maxSteps := 10000000) only [Act.put, List.setIfInBounds_toArray, List.set_cons_succ, List.set_cons_zero] | skip)
      go_wp2_with fail
      show wpAnyC _ _ _ _ _ _ _ _ _
      (first | dsimp only [List.getElem_toArray, List.getElem_cons_succ, List.getElem_cons_zero] | dsimp (maxSteps := 10000000) only [List.getElem_toArray, List.getElem_cons_succ, List.getElem_cons_zero] | skip); (first | go_frame | simp (maxSteps := 10000000) only [Act.put, List.setIfInBounds_toArray, List.set_cons_succ, List.set_cons_zero] | skip)
      refine wpAnyC_take (i := 13) (v := .pointer (some ⟨gx, 4, none⟩)) rfl (by kernel_rfl) (by kernel_rfl) (by kernel_rfl) (fun _ _ _ h => h) (Or.inl ⟨by rfl, ?_⟩) ?_
      · intro w _
        go_simp
        try exact IntWalk.i64_in _ (by omega)
        try omega
      (first | dsimp only [List.getElem_toArray, List.getElem_cons_succ, List.getElem_cons_zero] | dsimp (maxSteps := 10000000) only [List.getElem_toArray, List.getElem_cons_succ, List.getElem_cons_zero] | skip); (first | go_frame | simp (maxSteps := 10000000) only [Act.put, List.setIfInBounds_toArray, List.set_cons_succ, List.set_cons_zero] | skip)
      refine wpAnyC_forced (i := 14) (by kernel_rfl) rfl (((HC6.out.set Hne.out _).set Hne.out _)) ?_
      (first | dsimp only [List.getElem_toArray, List.getElem_cons_succ, List.getElem_cons_zero] | dsimp (maxSteps := 10000000) only [List.getElem_toArray, List.getElem_cons_succ, List.getElem_cons_zero] | skip); (first | go_frame | simp (maxSteps := 10000000) only [Act.put, List.setIfInBounds_toArray, List.set_cons_succ, List.set_cons_zero] | skip)
      go_wp2_with fail
      show wpAnyC _ _ _ _ _ _ _ _ _
      (first | dsimp only [List.getElem_toArray, List.getElem_cons_succ, List.getElem_cons_zero] | dsimp (maxSteps := 10000000) only [List.getElem_toArray, List.getElem_cons_succ, List.getElem_cons_zero] | skip); (first | go_frame | simp (maxSteps := 10000000) only [Act.put, List.setIfInBounds_toArray, List.set_cons_succ, List.set_cons_zero] | skip)
      refine wpAnyC_done (by kernel_rfl) (((HC6.out.set Hne.out _).set Hne.out _).set Hne.out _) ?_ _
      go_wp2
      go_meet
      refine ⟨?_, Blk.setCell_ne (Blk.setCell_ne (Blk.setCell_ne HZ6.out (by simp; omega) _) (by simp; omega) _) (by simp; omega) _, ((HW6.out.setCell (by show w.heap.size ≤ gx; omega) _).setCell (by show w.heap.size ≤ gx; omega) _).setCell (by show w.heap.size ≤ gx; omega) _⟩
      rw [HR.out]
      exact ((HX6.out.setCell 2 _).setCell 3 _).setCell 4 _
    · have e : ((f 1 : Int) == 2) = false := by simp; omega
      by_cases k3 : f 1 = 3
      · have HR := hid (show r = ⟨(f 0 : Nat), (f 1 : Nat), (f 2 : Nat), 0, (f 3 : Nat)⟩ by rw [HRDf.out, if_neg k2, if_pos (.inl k3)])
        have e3 : ((f 1 : Int) == 3) = true := by simp; omega
        clear HRDf k2 k3
        go_upto_region 8 with fail
        refine wp_region_anyD (RowC b f) (by kernel_rfl) ?_
        intro w6 he6 hb6
        have HC6 := hid (HC5.out.heap he6)
        have HX6 := hid (HX5.out.later hb6)
        have HZ6 := hid (HZ5.out.later hb6)
        have HW6 := hid (HW5.out.trans (hb6.mono hwsz))
        have hne : b ≠ gx := by omega
        have Hne := hid hne
        clear he6 hb6 c1 e hne
        have c2 : w6.cell? ⟨gx, 2, none⟩ = some (.int .i64 0) := Blk.cell HX6.out 2
        have c4 : w6.cell? ⟨gx, 4, none⟩ = some (.int .i64 0) := Blk.cell HX6.out 4
        have g2 := Blk.free HX6.out 2
        have g4 := Blk.free HX6.out 4
        show wpAnyC _ _ _ _ _ 10 (Array.replicate 10 false) _ _
        refine wpAnyC_take (i := 0) (v := .slice (some ⟨b, 0, none⟩) (L.length + 5) cap) rfl (by kernel_rfl) (by kernel_rfl) (by kernel_rfl) (fun _ _ _ h => h) (Or.inl ⟨by rfl, ?_⟩) ?_
        · intro w _
          go_simp
          try exact IntWalk.i64_in _ (by omega)
          try omega
        (first | dsimp only [List.getElem_toArray, List.getElem_cons_succ, List.getElem_cons_zero] | dsimp (maxSteps := 10000000) only [List.getElem_toArray, List.getElem_cons_succ, List.getElem_cons_zero] | skip); (first | go_frame | simp (maxSteps := 10000000) only [Act.put, List.setIfInBounds_toArray, List.set_cons_succ, List.set_cons_zero] | skip)
        refine wpAnyC_take (i := 1) (v := .pointer (some ⟨b, 2, none⟩)) rfl (by kernel_rfl) (by kernel_rfl) (by kernel_rfl) (fun _ _ _ h => h) (Or.inl ⟨by rfl, ?_⟩) ?_
        · intro w _
          go_simp
          try exact IntWalk.i64_in _ (by omega)
          try omega
        (first | dsimp only [List.getElem_toArray, List.getElem_cons_succ, List.getElem_cons_zero] | dsimp (maxSteps := 10000000) only [List.getElem_toArray, List.getElem_cons_succ, List.getElem_cons_zero] | skip); (first | go_frame | simp (maxSteps := 10000000) only [Act.put, List.setIfInBounds_toArray, List.set_cons_succ, List.set_cons_zero] | skip)
        refine wpAnyC_take (i := 2) (v := .int .i64 (f 2 : Nat)) rfl (by kernel_rfl) (by kernel_rfl) (by kernel_rfl) (fun _ _ _ h => h) (YieldsW.load_one (by rfl) 3 _ rfl ⟨b, 2, none⟩ rfl (.int .i64 (f 2 : Nat)) _ (fun w' hw' => hw' 2 (by decide)) Tryd.underlying3 rfl) ?_
        (first | dsimp only [List.getElem_toArray, List.getElem_cons_succ, List.getElem_cons_zero] | dsimp (maxSteps := 10000000) only [List.getElem_toArray, List.getElem_cons_succ, List.getElem_cons_zero] | skip); (first | go_frame | simp (maxSteps := 10000000) only [Act.put, List.setIfInBounds_toArray, List.set_cons_succ, List.set_cons_zero] | skip)
        refine wpAnyC_take (i := 3) (v := .slice (some ⟨b, 0, none⟩) (L.length + 5) cap) rfl (by kernel_rfl) (by kernel_rfl) (by kernel_rfl) (fun _ _ _ h => h) (Or.inl ⟨by rfl, ?_⟩) ?_
        · intro w _
          go_simp
          try exact IntWalk.i64_in _ (by omega)
          try omega
        (first | dsimp only [List.getElem_toArray, List.getElem_cons_succ, List.getElem_cons_zero] | dsimp (maxSteps := 10000000) only [List.getElem_toArray, List.getElem_cons_succ, List.getElem_cons_zero] | skip); (first | go_frame | simp (maxSteps := 10000000) only [Act.put, List.setIfInBounds_toArray, List.set_cons_succ, List.set_cons_zero] | skip)
        refine wpAnyC_take (i := 4) (v := .pointer (some ⟨b, 3, none⟩)) rfl (by kernel_rfl) (by kernel_rfl) (by kernel_rfl) (fun _ _ _ h => h) (Or.inl ⟨by rfl, ?_⟩) ?_
        · intro w _
          go_simp
          try exact IntWalk.i64_in _ (by omega)
          try omega
        (first | dsimp only [List.getElem_toArray, List.getElem_cons_succ, List.getElem_cons_zero] | dsimp (maxSteps := 10000000) only [List.getElem_toArray, List.getElem_cons_succ, List.getElem_cons_zero] | skip); (first | go_frame | simp (maxSteps := 10000000) only [Act.put, List.setIfInBounds_toArray, List.set_cons_succ, List.set_cons_zero] | skip)
        refine wpAnyC_take (i := 5) (v := .int .i64 (f 3 : Nat)) rfl (by kernel_rfl) (by kernel_rfl) (by kernel_rfl) (fun _ _ _ h => h) (YieldsW.load_one (by rfl) 3 _ rfl ⟨b, 3, none⟩ rfl (.int .i64 (f 3 : Nat)) _ (fun w' hw' => hw' 3 (by decide)) Tryd.underlying3 rfl) ?_
        (first | dsimp only [List.getElem_toArray, List.getElem_cons_succ, List.getElem_cons_zero] | dsimp (maxSteps := 10000000) only [List.getElem_toArray, List.getElem_cons_succ, List.getElem_cons_zero] | skip); (first | go_frame | simp (maxSteps := 10000000) only [Act.put, List.setIfInBounds_toArray, List.set_cons_succ, List.set_cons_zero] | skip)
        refine wpAnyC_take (i := 6) (v := .pointer (some ⟨gx, 2, none⟩)) rfl (by kernel_rfl) (by kernel_rfl) (by kernel_rfl) (fun _ _ _ h => h) (Or.inl ⟨by rfl, ?_⟩) ?_
        · intro w _
          go_simp
          try exact IntWalk.i64_in _ (by omega)
          try omega
        (first | dsimp only [List.getElem_toArray, List.getElem_cons_succ, List.getElem_cons_zero] | dsimp (maxSteps := 10000000) only [List.getElem_toArray, List.getElem_cons_succ, List.getElem_cons_zero] | skip); (first | go_frame | simp (maxSteps := 10000000) only [Act.put, List.setIfInBounds_toArray, List.set_cons_succ, List.set_cons_zero] | skip)
        refine wpAnyC_forced (i := 7) (by kernel_rfl) rfl (HC6.out) ?_
        (first | dsimp only [List.getElem_toArray, List.getElem_cons_succ, List.getElem_cons_zero] | dsimp (maxSteps := 10000000) only [List.getElem_toArray, List.getElem_cons_succ, List.getElem_cons_zero] | skip); (first | go_frame | simp (maxSteps := 10000000) only [Act.put, List.setIfInBounds_toArray, List.set_cons_succ, List.set_cons_zero] | skip)
        go_wp2_with fail
        show wpAnyC _ _ _ _ _ _ _ _ _
        (first | dsimp only [List.getElem_toArray, List.getElem_cons_succ, List.getElem_cons_zero] | dsimp (maxSteps := 10000000) only [List.getElem_toArray, List.getElem_cons_succ, List.getElem_cons_zero] | skip); (first | go_frame | simp (maxSteps := 10000000) only [Act.put, List.setIfInBounds_toArray, List.set_cons_succ, List.set_cons_zero] | skip)
        refine wpAnyC_take (i := 8) (v := .pointer (some ⟨gx, 4, none⟩)) rfl (by kernel_rfl) (by kernel_rfl) (by kernel_rfl) (fun _ _ _ h => h) (Or.inl ⟨by rfl, ?_⟩) ?_
        · intro w _
          go_simp
          try exact IntWalk.i64_in _ (by omega)
          try omega
        (first | dsimp only [List.getElem_toArray, List.getElem_cons_succ, List.getElem_cons_zero] | dsimp (maxSteps := 10000000) only [List.getElem_toArray, List.getElem_cons_succ, List.getElem_cons_zero] | skip); (first | go_frame | simp (maxSteps := 10000000) only [Act.put, List.setIfInBounds_toArray, List.set_cons_succ, List.set_cons_zero] | skip)
        refine wpAnyC_forced (i := 9) (by kernel_rfl) rfl ((HC6.out.set Hne.out _)) ?_
        (first | dsimp only [List.getElem_toArray, List.getElem_cons_succ, List.getElem_cons_zero] | dsimp (maxSteps := 10000000) only [List.getElem_toArray, List.getElem_cons_succ, List.getElem_cons_zero] | skip); (first | go_frame | simp (maxSteps := 10000000) only [Act.put, List.setIfInBounds_toArray, List.set_cons_succ, List.set_cons_zero] | skip)
        go_wp2_with fail
        show wpAnyC _ _ _ _ _ _ _ _ _
        (first | dsimp only [List.getElem_toArray, List.getElem_cons_succ, List.getElem_cons_zero] | dsimp (maxSteps := 10000000) only [List.getElem_toArray, List.getElem_cons_succ, List.getElem_cons_zero] | skip); (first | go_frame | simp (maxSteps := 10000000) only [Act.put, List.setIfInBounds_toArray, List.set_cons_succ, List.set_cons_zero] | skip)
        refine wpAnyC_done (by kernel_rfl) ((HC6.out.set Hne.out _).set Hne.out _) ?_ _
        go_wp2
        go_meet
        refine ⟨?_, Blk.setCell_ne (Blk.setCell_ne HZ6.out (by simp; omega) _) (by simp; omega) _, (HW6.out.setCell (by show w.heap.size ≤ gx; omega) _).setCell (by show w.heap.size ≤ gx; omega) _⟩
        rw [HR.out]
        exact (HX6.out.setCell 2 _).setCell 4 _
      · by_cases k4 : f 1 = 4
        · have HR := hid (show r = ⟨(f 0 : Nat), (f 1 : Nat), (f 2 : Nat), 0, (f 3 : Nat)⟩ by rw [HRDf.out, if_neg k2, if_pos (.inr k4)])
          have e3 : ((f 1 : Int) == 3) = false := by simp; omega
          have e4 : ((f 1 : Int) == 4) = true := by simp; omega
          clear HRDf k2 k3 k4
          go_upto_region 8 with fail
          refine wp_region_anyD (RowC b f) (by kernel_rfl) ?_
          intro w6 he6 hb6
          have HC6 := hid (HC5.out.heap he6)
          have HX6 := hid (HX5.out.later hb6)
          have HZ6 := hid (HZ5.out.later hb6)
          have HW6 := hid (HW5.out.trans (hb6.mono hwsz))
          have hne : b ≠ gx := by omega
          have Hne := hid hne
          clear he6 hb6 c1 e hne
          have c2 : w6.cell? ⟨gx, 2, none⟩ = some (.int .i64 0) := Blk.cell HX6.out 2
          have c4 : w6.cell? ⟨gx, 4, none⟩ = some (.int .i64 0) := Blk.cell HX6.out 4
          have g2 := Blk.free HX6.out 2
          have g4 := Blk.free HX6.out 4
          show wpAnyC _ _ _ _ _ 10 (Array.replicate 10 false) _ _
          refine wpAnyC_take (i := 0) (v := .slice (some ⟨b, 0, none⟩) (L.length + 5) cap) rfl (by kernel_rfl) (by kernel_rfl) (by kernel_rfl) (fun _ _ _ h => h) (Or.inl ⟨by rfl, ?_⟩) ?_
          · intro w _
            go_simp
            try exact IntWalk.i64_in _ (by omega)
            try omega
          (first | dsimp only [List.getElem_toArray, List.getElem_cons_succ, List.getElem_cons_zero] | dsimp (maxSteps := 10000000) only [List.getElem_toArray, List.getElem_cons_succ, List.getElem_cons_zero] | skip); (first | go_frame | simp (maxSteps := 10000000) only [Act.put, List.setIfInBounds_toArray, List.set_cons_succ, List.set_cons_zero] | skip)
          refine wpAnyC_take (i := 1) (v := .pointer (some ⟨b, 2, none⟩)) rfl (by kernel_rfl) (by kernel_rfl) (by kernel_rfl) (fun _ _ _ h => h) (Or.inl ⟨by rfl, ?_⟩) ?_
          · intro w _
            go_simp
            try exact IntWalk.i64_in _ (by omega)
            try omega
          (first | dsimp only [List.getElem_toArray, List.getElem_cons_succ, List.getElem_cons_zero] | dsimp (maxSteps := 10000000) only [List.getElem_toArray, List.getElem_cons_succ, List.getElem_cons_zero] | skip); (first | go_frame | simp (maxSteps := 10000000) only [Act.put, List.setIfInBounds_toArray, List.set_cons_succ, List.set_cons_zero] | skip)
          refine wpAnyC_take (i := 2) (v := .int .i64 (f 2 : Nat)) rfl (by kernel_rfl) (by kernel_rfl) (by kernel_rfl) (fun _ _ _ h => h) (YieldsW.load_one (by rfl) 3 _ rfl ⟨b, 2, none⟩ rfl (.int .i64 (f 2 : Nat)) _ (fun w' hw' => hw' 2 (by decide)) Tryd.underlying3 rfl) ?_
          (first | dsimp only [List.getElem_toArray, List.getElem_cons_succ, List.getElem_cons_zero] | dsimp (maxSteps := 10000000) only [List.getElem_toArray, List.getElem_cons_succ, List.getElem_cons_zero] | skip); (first | go_frame | simp (maxSteps := 10000000) only [Act.put, List.setIfInBounds_toArray, List.set_cons_succ, List.set_cons_zero] | skip)
          refine wpAnyC_take (i := 3) (v := .slice (some ⟨b, 0, none⟩) (L.length + 5) cap) rfl (by kernel_rfl) (by kernel_rfl) (by kernel_rfl) (fun _ _ _ h => h) (Or.inl ⟨by rfl, ?_⟩) ?_
          · intro w _
            go_simp
            try exact IntWalk.i64_in _ (by omega)
            try omega
          (first | dsimp only [List.getElem_toArray, List.getElem_cons_succ, List.getElem_cons_zero] | dsimp (maxSteps := 10000000) only [List.getElem_toArray, List.getElem_cons_succ, List.getElem_cons_zero] | skip); (first | go_frame | simp (maxSteps := 10000000) only [Act.put, List.setIfInBounds_toArray, List.set_cons_succ, List.set_cons_zero] | skip)
          refine wpAnyC_take (i := 4) (v := .pointer (some ⟨b, 3, none⟩)) rfl (by kernel_rfl) (by kernel_rfl) (by kernel_rfl) (fun _ _ _ h => h) (Or.inl ⟨by rfl, ?_⟩) ?_
          · intro w _
            go_simp
            try exact IntWalk.i64_in _ (by omega)
            try omega
          (first | dsimp only [List.getElem_toArray, List.getElem_cons_succ, List.getElem_cons_zero] | dsimp (maxSteps := 10000000) only [List.getElem_toArray, List.getElem_cons_succ, List.getElem_cons_zero] | skip); (first | go_frame | simp (maxSteps := 10000000) only [Act.put, List.setIfInBounds_toArray, List.set_cons_succ, List.set_cons_zero] | skip)
          refine wpAnyC_take (i := 5) (v := .int .i64 (f 3 : Nat)) rfl (by kernel_rfl) (by kernel_rfl) (by kernel_rfl) (fun _ _ _ h => h) (YieldsW.load_one (by rfl) 3 _ rfl ⟨b, 3, none⟩ rfl (.int .i64 (f 3 : Nat)) _ (fun w' hw' => hw' 3 (by decide)) Tryd.underlying3 rfl) ?_
          (first | dsimp only [List.getElem_toArray, List.getElem_cons_succ, List.getElem_cons_zero] | dsimp (maxSteps := 10000000) only [List.getElem_toArray, List.getElem_cons_succ, List.getElem_cons_zero] | skip); (first | go_frame | simp (maxSteps := 10000000) only [Act.put, List.setIfInBounds_toArray, List.set_cons_succ, List.set_cons_zero] | skip)
          refine wpAnyC_take (i := 6) (v := .pointer (some ⟨gx, 2, none⟩)) rfl (by kernel_rfl) (by kernel_rfl) (by kernel_rfl) (fun _ _ _ h => h) (Or.inl ⟨by rfl, ?_⟩) ?_
          · intro w _
            go_simp
            try exact IntWalk.i64_in _ (by omega)
            try omega
          (first | dsimp only [List.getElem_toArray, List.getElem_cons_succ, List.getElem_cons_zero] | dsimp (maxSteps := 10000000) only [List.getElem_toArray, List.getElem_cons_succ, List.getElem_cons_zero] | skip); (first | go_frame | simp (maxSteps := 10000000) only [Act.put, List.setIfInBounds_toArray, List.set_cons_succ, List.set_cons_zero] | skip)
          refine wpAnyC_forced (i := 7) (by kernel_rfl) rfl (HC6.out) ?_
          (first | dsimp only [List.getElem_toArray, List.getElem_cons_succ, List.getElem_cons_zero] | dsimp (maxSteps := 10000000) only [List.getElem_toArray, List.getElem_cons_succ, List.getElem_cons_zero] | skip); (first | go_frame | simp (maxSteps := 10000000) only [Act.put, List.setIfInBounds_toArray, List.set_cons_succ, List.set_cons_zero] | skip)
          go_wp2_with fail
          show wpAnyC _ _ _ _ _ _ _ _ _
          (first | dsimp only [List.getElem_toArray, List.getElem_cons_succ, List.getElem_cons_zero] | dsimp (maxSteps := 10000000) only [List.getElem_toArray, List.getElem_cons_succ, List.getElem_cons_zero] | skip); (first | go_frame | simp (maxSteps := 10000000) only [Act.put, List.setIfInBounds_toArray, List.set_cons_succ, List.set_cons_zero] | skip)
          refine wpAnyC_take (i := 8) (v := .pointer (some ⟨gx, 4, none⟩)) rfl (by kernel_rfl) (by kernel_rfl) (by kernel_rfl) (fun _ _ _ h => h) (Or.inl ⟨by rfl, ?_⟩) ?_
          · intro w _
            go_simp
            try exact IntWalk.i64_in _ (by omega)
            try omega
          (first | dsimp only [List.getElem_toArray, List.getElem_cons_succ, List.getElem_cons_zero] | dsimp (maxSteps := 10000000) only [List.getElem_toArray, List.getElem_cons_succ, List.getElem_cons_zero] | skip); (first | go_frame | simp (maxSteps := 10000000) only [Act.put, List.setIfInBounds_toArray, List.set_cons_succ, List.set_cons_zero] | skip)
          refine wpAnyC_forced (i := 9) (by kernel_rfl) rfl ((HC6.out.set Hne.out _)) ?_
          (first | dsimp only [List.getElem_toArray, List.getElem_cons_succ, List.getElem_cons_zero] | dsimp (maxSteps := 10000000) only [List.getElem_toArray, List.getElem_cons_succ, List.getElem_cons_zero] | skip); (first | go_frame | simp (maxSteps := 10000000) only [Act.put, List.setIfInBounds_toArray, List.set_cons_succ, List.set_cons_zero] | skip)
          go_wp2_with fail
          show wpAnyC _ _ _ _ _ _ _ _ _
          (first | dsimp only [List.getElem_toArray, List.getElem_cons_succ, List.getElem_cons_zero] | dsimp (maxSteps := 10000000) only [List.getElem_toArray, List.getElem_cons_succ, List.getElem_cons_zero] | skip); (first | go_frame | simp (maxSteps := 10000000) only [Act.put, List.setIfInBounds_toArray, List.set_cons_succ, List.set_cons_zero] | skip)
          refine wpAnyC_done (by kernel_rfl) ((HC6.out.set Hne.out _).set Hne.out _) ?_ _
          go_wp2
          go_meet
          refine ⟨?_, Blk.setCell_ne (Blk.setCell_ne HZ6.out (by simp; omega) _) (by simp; omega) _, (HW6.out.setCell (by show w.heap.size ≤ gx; omega) _).setCell (by show w.heap.size ≤ gx; omega) _⟩
          rw [HR.out]
          exact (HX6.out.setCell 2 _).setCell 4 _
        · have HR := hid (show r = ⟨(f 0 : Nat), (f 1 : Nat), 0, 0, 0⟩ by rw [HRDf.out, if_neg k2, if_neg (by omega)])
          have e3 : ((f 1 : Int) == 3) = false := by simp; omega
          have e4 : ((f 1 : Int) == 4) = false := by simp; omega
          clear HRDf k2 k3 k4
          go_wp2
          go_meet
          exact ⟨by rw [HR.out]; exact HX5.out, HZ5.out, HW5.out⟩
  case rest =>
    obtain ⟨hX, hZ, hW⟩ := hcut
    have HX := hid hX; have HZ := hid hZ; have HW := hid hW
    clear hX hZ hW c1
    have HI : r.I64 := by
      have h0 := Hfle.out 0; have h1 := Hfle.out 1; have h2 := Hfle.out 2; have h3 := Hfle.out 3; have h4 := Hfle.out 4
      rw [HRDf.out]
      split
      · exact ⟨by simp only; omega, by simp only; omega, by simp only; omega, by simp only; omega, by simp only; omega⟩
      · split
        · exact ⟨by simp only; omega, by simp only; omega, by simp only; omega, by simp only; omega, by simp only; omega⟩
        · exact ⟨by simp only; omega, by simp only; omega, by simp only; omega, by simp only; omega, by simp only; omega⟩
    have CP := hid (rrqput_any r wc HI)
    clear HRDf HI
    cases hp : putRq r with
    | none =>
      have E := hid (HGI.out.2 (by rw [hp]; simp))
      rw [hp] at CP
      clear HGI hp
      go_wp2_with (first
        | ((with_reducible show wpList _ _ _ ({ dst := _, op := Op.load 61 _, type := _, pos := _, after := _, guard := _ } :: _) _ _); refine wpList_load_blk rfl 61 _ rfl gx rfl 61 r.cs _ HX.out Tryd.underlying61 rfl Tryd.sizeRq ?_)
        | (go_at_call 85; refine (CP.out).mono ?_; rintro e w7 ⟨rfl, hb7⟩; have HZ7 := hid (HZ.out.later hb7); simp only [putR])
        | ((with_reducible show wpList _ _ _ ({ dst := _, op := Op.store 61 _ _, type := _, pos := _, after := _, guard := _ } :: _) _ _); refine wpList_store_blk rfl 61 _ _ rfl w.heap.size rfl zeroRq.cs rfl zeroRq.cs 61 HZ7.out rfl Tryd.sizeRq (Rq.cs_one _) ?_))
      exact bodyPost_ret (results_cell2 rfl _ w.heap.size 61 zeroRq.cs (0, 0) _ rfl (setRow_get (cs := zeroRq.cs) HZ7.out) Tryd.underlying61 rfl Tryd.sizeRq) rfl ⟨by rw [E.out]; rfl, (HW.out.trans (hb7.mono HW.out.size)).setRow (Nat.le_refl _) _⟩
    | some t =>
      rw [hp] at CP
      by_cases ht : t = l
      · have E := hid (HGI.out.1 (by rw [hp, ht]))
        subst ht
        have q : (t == t) = true := by simp
        clear HGI hp
        go_wp2_with (first
          | ((with_reducible show wpList _ _ _ ({ dst := _, op := Op.load 61 _, type := _, pos := _, after := _, guard := _ } :: _) _ _); refine wpList_load_blk rfl 61 _ rfl gx rfl 61 r.cs _ HX.out Tryd.underlying61 rfl Tryd.sizeRq ?_)
          | (go_at_call 85; refine (CP.out).mono ?_; rintro e w7 ⟨rfl, hb7⟩; have HZ7 := hid (HZ.out.later hb7); have HX := hid (HX.out.later hb7); simp only [putR])
          | ((with_reducible show wpList _ _ _ ({ dst := _, op := Op.store 61 _ _, type := _, pos := _, after := _, guard := _ } :: _) _ _); refine wpList_store_blk rfl 61 _ _ rfl w.heap.size rfl r.cs rfl zeroRq.cs 61 HZ7.out rfl Tryd.sizeRq (Rq.cs_one _) ?_))
        exact bodyPost_ret (results_cell2 rfl _ w.heap.size 61 r.cs (0, 0) _ rfl (setRow_get (cs := r.cs) HZ7.out) Tryd.underlying61 rfl Tryd.sizeRq) rfl ⟨by rw [E.out]; rfl, (HW.out.trans (hb7.mono HW.out.size)).setRow (Nat.le_refl _) _⟩
      · have E := hid (HGI.out.2 (by rw [hp]; simpa using ht))
        have q : (t == l) = false := by simpa using ht
        clear HGI hp ht
        go_wp2_with (first
          | ((with_reducible show wpList _ _ _ ({ dst := _, op := Op.load 61 _, type := _, pos := _, after := _, guard := _ } :: _) _ _); refine wpList_load_blk rfl 61 _ rfl gx rfl 61 r.cs _ HX.out Tryd.underlying61 rfl Tryd.sizeRq ?_)
          | (go_at_call 85; refine (CP.out).mono ?_; rintro e w7 ⟨rfl, hb7⟩; have HZ7 := hid (HZ.out.later hb7); simp only [putR])
          | ((with_reducible show wpList _ _ _ ({ dst := _, op := Op.store 61 _ _, type := _, pos := _, after := _, guard := _ } :: _) _ _); refine wpList_store_blk rfl 61 _ _ rfl w.heap.size rfl zeroRq.cs rfl zeroRq.cs 61 HZ7.out rfl Tryd.sizeRq (Rq.cs_one _) ?_))
        exact bodyPost_ret (results_cell2 rfl _ w.heap.size 61 zeroRq.cs (0, 0) _ rfl (setRow_get (cs := zeroRq.cs) HZ7.out) Tryd.underlying61 rfl Tryd.sizeRq) rfl ⟨by rw [E.out]; rfl, (HW.out.trans (hb7.mono HW.out.size)).setRow (Nat.le_refl _) _⟩
end Go.Proofs.YtbpjlancjdbehaaDoor
