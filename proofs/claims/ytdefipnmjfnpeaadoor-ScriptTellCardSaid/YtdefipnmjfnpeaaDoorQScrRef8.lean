/- the document's script: step -/
import Derived.Test.YtdefipnmjfnpeaaDoorQScrRef7
import Derived.Test.YtdefipnmjfnpeaaDoorQScrStep

set_option maxRecDepth 100000
namespace Go.Proofs.YtdefipnmjfnpeaaDoor
open Go.RowKit Go.Spec
theorem stepB_none (s : List UInt8) (h : ∀ m, 1 ≤ m → m < 14 → wordT m ≠ at4 (splitL s) 0) : stepB s = false := by
  cases hb : stepB s with
  | false => rfl
  | true =>
    obtain ⟨ho, hl⟩ := stepB_true hb
    have he : s = bodyL (parseL s) := by
      rw [line_ok _ ho] at hl
      exact (List.append_cancel_right hl).symm
    have hW : splitL s = wordT (parseL s).kind.toNat :: argsL (parseL s) := (congrArg splitL he).trans (split_body _ ho.kind)
    have hk := ho.kind
    unfold isK at hk
    exact absurd (by rw [hW]; rfl) (h (parseL s).kind.toNat (by omega) (by omega))
theorem kind_of (k : Nat) (h : 1 ≤ k ∧ k < 14) (w : List UInt8) (hw : wordT k = w) : kindL w = k := by
  have := kind_word (k : Int) (by unfold isK; omega)
  rw [Int.toNat_natCast, hw] at this
  exact this
theorem ownsRow_other {w : World} {base e size n cap g : Nat} {xs : List Value} (h : w.ownsRow base e size (.slice (some ⟨g, 0, none⟩) n cap) n xs) {a : Addr} (ha : a.block ≠ g) (v : Value) : (w.setCell a v).ownsRow base e size (.slice (some ⟨g, 0, none⟩) n cap) n xs := by
  refine ⟨h.1, ?_⟩
  rcases h.2 with hn | ⟨k, cp, cur, hv, hb, hg, rest⟩
  · exact .inl hn
  · refine .inr ⟨k, cp, cur, hv, hb, ?_, rest⟩
    simp only [Value.slice.injEq, Option.some.injEq, Addr.mk.injEq, and_true, true_and] at hv
    obtain ⟨rfl, rfl⟩ := hv
    exact (Below.heap_setCell _ _ _ _ (Ne.symm ha)).trans hg
/-- the step, so far as it is read: i numbers -/
def stpR (W : List (List UInt8)) (i : Nat) : Array Value := #[.int .i64 (if 0 < i then numL (at4 W 1) else 0), .int .i64 (if 1 < i then numL (at4 W 2) else 0), .int .i64 (if 2 < i then numL (at4 W 3) else 0)]
theorem stpR_set (W : List (List UInt8)) (i : Nat) (h : i < 3) : (stpR W i).setIfInBounds i (.int .i64 (numL (at4 W (1 + i)))) = stpR W (i + 1) := by
  have h3 : i = 0 ∨ i = 1 ∨ i = 2 := by omega
  rcases h3 with rfl | rfl | rfl <;> simp [stpR]
theorem stpR_cell (W : List (List UInt8)) (i : Nat) (h : i < 3) : (stpR W i)[i]? = some (.int .i64 0) := by
  have h3 : i = 0 ∨ i = 1 ∨ i = 2 := by omega
  rcases h3 with rfl | rfl | rfl <;> simp [stpR]
def padL (W : List (List UInt8)) : List (List UInt8) := W ++ [[], [], [], []]
theorem padL_at (W : List (List UInt8)) (i : Nat) (h : i < W.length + 4) : (padL W)[i]? = some (at4 W i) := by
  unfold padL at4
  rw [List.getD_eq_getElem?_getD]
  by_cases hi : i < W.length
  · rw [List.getElem?_append_left hi, List.getElem?_eq_getElem hi]; rfl
  · rw [List.getElem?_append_right (by omega), show W[i]? = none from List.getElem?_eq_none (by omega)]
    have h4 : i - W.length = 0 ∨ i - W.length = 1 ∨ i - W.length = 2 ∨ i - W.length = 3 := by omega
    rcases h4 with h | h | h | h <;> rw [h] <;> rfl
def rP (W : List (List UInt8)) (k : Nat) : Stp := ⟨k, if 0 < numsT k then numL (at4 W 1) else 0, if 1 < numsT k then numL (at4 W 2) else 0, if 2 < numsT k then numL (at4 W 3) else 0, if textT k then readW (at4 W (1 + numsT k)) else []⟩
theorem parse_rP (s : List UInt8) (k : Nat) (h : 1 ≤ k ∧ k < 14) (hw : wordT k = at4 (splitL s) 0) : parseL s = rP (splitL s) k := by
  unfold parseL
  simp only
  rw [kind_of k h _ hw]
  rfl
theorem see_rP (s : List UInt8) (k : Nat) (h : 1 ≤ k ∧ k < 14) (hw : wordT k = at4 (splitL s) 0) : (lineL (rP (splitL s) k) == s ++ [10]) = stepB s ∧ (rP (splitL s) k).Ok := by
  have e := parse_rP s k h hw
  have hk : isK (parseL s).kind := by rw [e]; show isK (k : Int); unfold isK; omega
  refine ⟨?_, by rw [← e]; exact parse_ok s hk⟩
  rw [← e]
  unfold stepB
  simp [hk]
theorem at4_len (s : List UInt8) (i : Nat) : (at4 (splitL s) i).length ≤ s.length := by
  have key : ∀ (l : List UInt8) (ws : List (List UInt8)) (m : Nat), (∀ v ∈ ws, v.length ≤ m) → ∀ v ∈ l.foldl splitF ws, v.length ≤ m + l.length := fun l => by
    induction l with
    | nil => intro ws m h v hv; have := h v hv; simp; omega
    | cons c r ih =>
      intro ws m h v hv
      have := ih (splitF ws c) (m + 1) (fun u hu => by
        unfold splitF at hu
        split at hu
        · rcases List.mem_append.1 hu with h1 | h1
          · have := h u h1; omega
          · rw [List.mem_singleton] at h1; subst h1; simp
        · rcases List.mem_append.1 hu with h1 | h1
          · have := h u (List.dropLast_subset _ h1); omega
          · rw [List.mem_singleton] at h1; subst h1
            rw [List.length_append]
            rcases List.eq_nil_or_concat ws with rfl | ⟨a, b, rfl⟩
            · simp
            · rw [List.concat_eq_append, List.getLastD_concat]
              have := h b (by simp); simp; omega) v hv
      rw [List.length_cons]; omega
  unfold at4
  rw [List.getD_eq_getElem?_getD]
  cases h : (splitL s)[i]? with
  | none => simp
  | some v =>
    have := key s [[]] 0 (by simp) v (List.mem_of_getElem? h)
    simpa using this
theorem rP_text (s : List UInt8) (W : List (List UInt8)) (k : Nat) (hW : splitL s = W) (hs : s.length ≤ 100000000) : (rP W k).text.length ≤ 100000000 := by
  show (if _ then readW _ else ([] : List UInt8)).length ≤ _
  split
  · have h1 : (readW (at4 W (1 + numsT k))).length ≤ (at4 W (1 + numsT k)).length := Nat.le_trans (readP_len _) (by rw [List.length_drop]; omega)
    have h2 := at4_len s (1 + numsT k)
    rw [hW] at h2
    omega
  · simp
set_option maxHeartbeats 16000000 in
theorem rstep_any (s : List UInt8) (w : World) (hs : s.length ≤ 50000000) :
    Calls Tryd.prog 18 #[sv s] w fun e w' => (∃ x : Stp, e = .returned (.tuple #[x.v, .bool (stepB s)]) ∧ (stepB s = true → x.Ok ∧ lineL x = s ++ [10])) ∧ Below w.heap.size w w' := by
  obtain ⟨i0, hi0, hz0, hz1, hz2⟩ := info_parts Tryd.infoStr
  have HI0 := hid hi0; clear hi0
  have SA := hid (fun w0 => rwords_any s w0 (by omega))
  have hs2 : s.length ≤ 100000000 := by omega
  go_enter Tryd.func18, Tryd.ntmps18
  go_upto_region 1 with fail
  refine wp_world (fun W => Blk W w.heap.size zeroStp 27 ∧ Below w.heap.size w W) ⟨Blk.new _ _ _, (Below.refl _ w).alloc (Nat.le_refl _) _⟩ ?_
  rintro y0 ⟨hR, hb0⟩
  have HR0 := hid hR; have HB0 := hid hb0; clear hR hb0
  have Hgs := hid (show w.heap.size < y0.heap.size from HR0.out.lt)
  go_upto_region 2 with (go_at_call 33; refine (SA.out _).mono ?_; rintro e y1 ⟨⟨v, rfl, hO1⟩, hb1⟩)
  have HR1 := hid (HR0.out.later hb1); have HB1 := hid (bth HB0.out hb1)
  clear hb1 HR0 HB0 SA
  generalize y0.heap.size = B at *
  clear y0
  obtain ⟨pre, u, hpu⟩ := splitL_ne s
  have hsz := split_size s pre u hpu
  obtain ⟨W, hWW⟩ : ∃ W, splitL s = W := ⟨_, rfl⟩
  have hlen : 1 ≤ W.length ∧ W.length ≤ 50000001 := by rw [← hWW, hpu]; simp; omega
  rw [hWW] at hO1
  have HW := hid hWW
  clear hpu hsz hWW
  obtain ⟨n, hn⟩ : ∃ n, W.length = n := ⟨_, rfl⟩
  rw [hn] at hO1 hlen
  have Hn := hid hn; clear hn
  obtain ⟨hn1, hn2⟩ := hlen
  obtain ⟨g, cap, rfl, hg1, hg2, hg3, _⟩ := ownsRow_some hO1 (by omega)
  have HO1 := hid hO1; clear hO1 hg2
  have Hg1 := hid hg1; clear hg1
  go_upto_region 3 with fail
  go_loopw [4, 5] (fun v i wr => ∃ k : Nat, 1 ≤ k ∧ k ≤ 14 ∧ v = .slice (some ⟨g, 0, none⟩) n cap ∧ i = .int .i64 (k : Int) ∧ (∀ m, 1 ≤ m → m < k → wordT m ≠ at4 W 0) ∧ Blk wr w.heap.size zeroStp 27 ∧ wr.ownsRow B 9 1 (.slice (some ⟨g, 0, none⟩) n cap) n (W.map sv) ∧ Below w.heap.size w wr) (fun _ i _ => 14 - (intOf i).toNat)
  case atStart => exact ⟨1, by omega, by omega, rfl, rfl, fun m h1 h2 => by omega, HR1.out, HO1.out, HB1.out⟩
  case round =>
    obtain ⟨k, hk1, hk, rfl, rfl, hno, hR, hO, hb⟩ := hrel
    have HNo := hid hno; have HR := hid hR; have HO := hid hO; have HB := hid hb
    clear hno hR hO hb HR1 HO1 HB1
    by_cases hlt : k < 14
    · have hkI : (k : Int) ≤ 13 := by omega
      have hn1I : (0 : Int) < (n : Int) := by omega
      obtain ⟨w0, hw0⟩ : ∃ w0, at4 W 0 = w0 := ⟨_, rfl⟩
      have Q1 := hid (fun q : Later wr => show (lat q).cell? ⟨g, 0, none⟩ = some (sv w0) from by
        rw [(HO.out.later (lat_below q)).cellAt 0 (by omega), List.getElem?_map, ← hw0]
        unfold at4
        rw [List.getD_eq_getElem?_getD, List.getElem?_eq_getElem (by rw [Hn.out]; omega)]; rfl)
      have W1 := hid (show ∀ w9, Calls Tryd.prog 24 #[.int .i64 (k : Int)] w9 fun e w' => e = .returned (sv (wordT k)) ∧ Below w9.heap.size w9 w' from fun w9 => by
        have := rword_any (k : Int) w9
        rw [if_pos (by unfold isK; omega), Int.toNat_natCast] at this
        refine this.mono ?_
        rintro e w' ⟨rfl, rfl⟩
        exact ⟨rfl, Below.refl _ _⟩)
      have D1 := hid (fun q : Later wr => W1.out (lat q))
      clear W1
      go_upto_region 5 with fail
      by_cases hw : wordT k = w0
      · have Hk := hid (show (1 ≤ k ∧ k < 14) ∧ wordT k = at4 W 0 from ⟨⟨hk1, hlt⟩, by rw [hw, hw0]⟩)
        rw [hw] at D1
        clear hw hw0 HNo
        refine wp_region_later (by kernel_rfl) (by kernel_rfl) ?_
        repeat (first
          | go_big_quiet_skip
          | (refine wpQuiet_load_one rfl 9 _ rfl ⟨g, 0, none⟩ rfl (sv w0) _ (by rintro _ ⟨q, rfl⟩; exact Q1.out q) Tryd.underlying9 rfl ?_; simp only [Act.put, List.setIfInBounds_toArray, List.set_cons_succ, List.set_cons_zero])
          | go_big_quiet_step ((first | (go_at_call 24; with_reducible exact calls_later (D1.out _)))))
        refine wpQuiet_nil ?_
        rintro _ ⟨q6, rfl⟩
        have hb6 := lat_below q6
        generalize lat q6 = w6 at *
        have HR6 := hid (HR.out.later hb6); have HO6 := hid (HO.out.later hb6); have HB6 := hid (bth HB.out hb6)
        clear hb6 Q1 HR HO HB
        have hkk : isK (k : Int) := by unfold isK; omega
        have N1 := hid (fun w9 => rnum_any (k : Int) hkk w9)
        have T1 := hid (fun w9 => rtexts_any (k : Int) hkk w9)
        rw [Int.toNat_natCast] at N1 T1
        clear hkk
        have hN := nums_le k
        have hNI : (numsT k : Int) ≤ 3 := Int.ofNat_le.2 hN
        have hge : ∀ q, (Value.slice (some ⟨g, 0, none⟩) n cap).ownBlock = some q → B ≤ q := fun q hq => (HO6.out.lt q hq).1
        go_upto_region 7 with (at_builtin; refine wpList_app rfl _ _ 61 rfl B 9 i0 (.string ByteArray.empty) 1 16 Tryd.underlying61 HI0.out hz0 hz1 hz2 rfl (by decide) _ n _ rfl (HO6.out.alloc _) ⟨w6.heap.size, 0, none⟩ 4 4 [sv [], sv [], sv [], sv []] rfl rfl ?c2 (by intro u hu; simp at hu; subst hu; rfl) ?c4 ?c5 ?c6 ?_)
        case c2 => exact (Blk.new w6 #[sv [], sv [], sv [], sv []] 9).cells
        case c4 => unfold maxLen; omega
        case c5 => omega
        case c6 => have := HB6.out.size; have := Hg1.out; have := hg3; have h7 := (HO6.out.lt g rfl).2; simp; omega
        intro v' w7 hown7 hg7 hat7
        obtain ⟨n4, hn4⟩ : ∃ n4, n + 4 = n4 := ⟨_, rfl⟩
        rw [hn4] at hown7
        obtain ⟨g2, cap2, rfl, _, hg2lt, _, _⟩ := ownsRow_some hown7 (by omega)
        have HO7 := hid (show w7.ownsRow B 9 1 (.slice (some ⟨g2, 0, none⟩) n4 cap2) n4 ((padL W).map sv) from by
          have : (padL W).map sv = W.map sv ++ [sv [], sv [], sv [], sv []] := by unfold padL; rw [List.map_append]; rfl
          rw [this]; exact hown7)
        have HR7 := hid ((HR6.out.alloc (.cells #[sv [], sv [], sv [], sv []] 9)).grown' hg7 (fun q hq => by have := hge q hq; have := Hgs.out; omega))
        have HB7 := hid ((HB6.out.alloc HB6.out.size (.cells #[sv [], sv [], sv [], sv []] 9)).grown hg7 (HB6.out.alloc HB6.out.size (.cells #[sv [], sv [], sv [], sv []] 9)).size (fun q hq => by have := hge q hq; have := Hgs.out; omega))
        have Hn4 := hid hn4
        have hn4I : (n4 : Int) ≤ 50000005 := by omega
        have hn45 : (5 : Int) ≤ (n4 : Int) := by omega
        clear hown7 hg7 hat7 hge hn4 HO6 HR6 HB6 hg2lt
        have hbz : ∀ w', (Instr.build 66 #[]).run Tryd.prog w' = .ok (.agg #[.int .i64 0, .int .i64 0, .int .i64 0]) w' := fun w' => by kernel_rfl
        obtain ⟨N, hNk⟩ : ∃ N, numsT k = N := ⟨_, rfl⟩
        rw [hNk] at N1 hN hNI
        have HNk := hid hNk; clear hNk
        go_upto_region 9 with (first
          | (go_at_call 25; refine (N1.out _).mono ?_; rintro e w4 ⟨rfl, h4⟩; obtain rfl := h4.symm)
          | ((with_reducible show wpList _ _ _ ({ dst := _, op := Op.store _ _ _, type := _, pos := _, after := _, guard := _ } :: _) _ _); refine wpList_store_newA rfl 66 _ _ rfl rfl (stpR W 0) rfl _ 66 rfl Tryd.sizeArr3 (by intro v hv; simp [stpR] at hv; subst hv; rfl) ?_))
        simp only [Act.put]
        refine wp_world (fun W' => Blk W' w7.heap.size (stpR W 0) 66 ∧ Blk W' w.heap.size zeroStp 27 ∧ W'.ownsRow B 9 1 (.slice (some ⟨g2, 0, none⟩) n4 cap2) n4 ((padL W).map sv) ∧ Below w.heap.size w W') ⟨Blk.new _ _ _, HR7.out.alloc _, HO7.out.alloc _, HB7.out.alloc HB7.out.size _⟩ ?_
        have Hga := hid (show w.heap.size < w7.heap.size ∧ g2 < w7.heap.size from ⟨HR7.out.lt, (HO7.out.lt g2 rfl).2⟩)
        have Hg2B := hid (HO7.out.lt g2 rfl).1
        clear HR7 HO7 HB7 hbz
        generalize w7.heap.size = ga at *
        rintro y8 ⟨hA, hR, hO, hb⟩
        have HA8 := hid hA; have HR8 := hid hR; have HO8 := hid hO; have HB8 := hid hb
        clear hA hR hO hb
        go_upto_region 10 with fail
        go_loopw [8] (fun ii W' => ∃ i : Nat, i ≤ N ∧ ii = .int .i64 (i : Int) ∧ Blk W' ga (stpR W i) 66 ∧ Blk W' w.heap.size zeroStp 27 ∧ W'.ownsRow B 9 1 (.slice (some ⟨g2, 0, none⟩) n4 cap2) n4 ((padL W).map sv) ∧ Below w.heap.size w W') (fun ii _ => N - (intOf ii).toNat)
        case atStart => exact ⟨0, by omega, rfl, HA8.out, HR8.out, HO8.out, HB8.out⟩
        case round =>
          clear HA8 HR8 HO8 HB8
          obtain ⟨i, hi, rfl, hA, hR, hO, hb⟩ := hrel
          have HA := hid hA; have HR := hid hR; have HO := hid hO; have HB := hid hb
          clear hA hR hO hb
          by_cases hiN : i < N
          · have hiI : (i : Int) < (N : Int) := by omega
            obtain ⟨i1, hi1⟩ : ∃ i1, 1 + i = i1 := ⟨_, rfl⟩
            have hi1I : (1 : Int) + (i : Int) = (i1 : Int) := by omega
            have hi1n : (i1 : Int) < (n4 : Int) := by omega
            have hi1k : (i1 : Int) ≤ 4 := by omega
            have cw : wr.cell? ⟨g2, i1, none⟩ = some (sv (at4 W i1)) := by
              rw [HO.out.cellAt i1 (by omega), List.getElem?_map, padL_at W i1 (by have := Hn.out; have := Hn4.out; omega)]; rfl
            have hVl : (at4 W i1).length ≤ s.length := by rw [← HW.out]; exact at4_len s i1
            have C1 := hid (rnumber_any (at4 W i1) wr (by omega))
            have HSx := hid (stpR_set W i (by omega))
            have HCx := hid (stpR_cell W i (by omega))
            rw [hi1] at HSx
            have hi3 : (i : Int) < 3 := by omega
            clear hi1 hVl
            generalize at4 W i1 = V at *
            generalize numL V = z at *
            go_wp2_with (go_at_call 34; refine C1.out.mono ?_; rintro e w5 ⟨rfl, hb5⟩; have cx := ((HA.out.later hb5).cell i).trans HCx.out; have fx := Blk.free (HA.out.later hb5) i)
            go_roundw
            case rel =>
              have hq := Hga.out
              refine ⟨i + 1, by omega, by go_num, ?_, (HR.out.later hb5).setCell_ne (by simp only; omega) _, ownsRow_other (HO.out.later hb5) (by simp only; omega) _, (bth HB.out hb5).setCell (p := ⟨ga, i, none⟩) (by simp only; omega) _⟩
              rw [← HSx.out]
              exact (HA.out.later hb5).setCell i _
            case measure => simp [intOf]; omega
          · obtain rfl : i = N := by omega
            obtain ⟨za, hza⟩ : ∃ z, (if 0 < i then numL (at4 W 1) else 0) = z := ⟨_, rfl⟩
            obtain ⟨zb, hzb⟩ : ∃ z, (if 1 < i then numL (at4 W 2) else 0) = z := ⟨_, rfl⟩
            obtain ⟨zc, hzc⟩ : ∃ z, (if 2 < i then numL (at4 W 3) else 0) = z := ⟨_, rfl⟩
            have ca0 : wr.cell? ⟨ga, 0, none⟩ = some (.int .i64 za) := by rw [HA.out.cell 0, ← hza]; rfl
            have ca1 : wr.cell? ⟨ga, 1, none⟩ = some (.int .i64 zb) := by rw [HA.out.cell 1, ← hzb]; rfl
            have ca2 : wr.cell? ⟨ga, 2, none⟩ = some (.int .i64 zc) := by rw [HA.out.cell 2, ← hzc]; rfl
            have HP := hid (show ∀ t, (if textT k then readW (at4 W (1 + i)) else []) = t → (rP W k).cs = (Stp.mk k za zb zc t).cs from fun t ht => by
              have hN := HNk.out
              subst hza; subst hzb; subst hzc; subst ht; subst hN
              rfl)
            have hbld : ∀ w', (Instr.build 27 #[(0, .int .i64 (k : Int)), (1, .int .i64 za), (2, .int .i64 zb), (3, .int .i64 zc)]).run Tryd.prog w' = .ok (.agg (Stp.mk k za zb zc []).cs) w' := fun w' => by kernel_rfl
            clear hza hzb hzc
            go_upto_region 14 with (first
              | ((with_reducible show wpList _ _ _ ({ dst := _, op := Op.store _ _ _, type := _, pos := _, after := _, guard := _ } :: _) _ _); refine wpList_store_newA rfl 27 _ _ rfl rfl (Stp.mk k za zb zc []).cs rfl _ 27 rfl Tryd.sizeStepR (stp_one _) ?_))
            simp only [Act.put]
            refine wp_world (fun W' => Blk W' wr.heap.size (Stp.mk k za zb zc []).cs 27 ∧ Blk W' w.heap.size zeroStp 27 ∧ W'.ownsRow B 9 1 (.slice (some ⟨g2, 0, none⟩) n4 cap2) n4 ((padL W).map sv) ∧ Below w.heap.size w W') ⟨Blk.new _ _ _, HR.out.alloc _, HO.out.alloc _, HB.out.alloc HB.out.size _⟩ ?_
            have Hgx := hid (show w.heap.size < wr.heap.size ∧ g2 < wr.heap.size from ⟨HR.out.lt, (HO.out.lt g2 rfl).2⟩)
            clear HA HR HO HB ca0 ca1 ca2 hbld
            generalize wr.heap.size = gx at *
            rintro y9 ⟨hX, hR, hO, hb⟩
            have HX := hid hX; have HR := hid hR; have HO := hid hO; have HB := hid hb
            clear hX hR hO hb
            cases hT : textT k with
            | false =>
              rw [hT] at T1
              have HP0 := hid (HP.out [] (by rw [hT]; rfl))
              go_upto_region 16 with (go_at_call 27; refine (T1.out _).mono ?_; rintro e w4 ⟨rfl, h4⟩; obtain rfl := h4.symm)
              refine wp_world (fun W' => Blk W' gx (rP W k).cs 27 ∧ Blk W' w.heap.size zeroStp 27 ∧ Below w.heap.size w W') ⟨by rw [HP0.out]; exact HX.out, HR.out, HB.out⟩ ?_
              rintro wz ⟨hXz, hRz, hBz⟩
              have HXf := hid hXz; have HRf := hid hRz; have HBf := hid hBz
              clear hXz hRz hBz
              obtain ⟨HE1, HXo1⟩ := see_rP s k Hk.out.1 (by rw [HW.out]; exact Hk.out.2)
              rw [HW.out] at HE1 HXo1
              have HE := hid HE1; have HXo := hid HXo1; clear HE1 HXo1
              have L1 := hid (fun w9 => rline_any (rP W k) w9 ⟨HXo.out.a, HXo.out.b, HXo.out.c⟩ (rP_text s W k HW.out hs2))
              have HXs := hid (show (Tryd.prog.info? 27).map (·.size) = some (rP W k).cs.size from Tryd.sizeStepR)
              have HX1 := hid (stp_one (rP W k))
              have HXv := hid (show (rP W k).v = .agg (rP W k).cs from rfl)
              unfold Stp.v at L1
              have HXz := hid (show (rP W k).cs.size = 5 from rfl)
              obtain ⟨LX, hLX⟩ : ∃ L, lineL (rP W k) = L := ⟨_, rfl⟩
              obtain ⟨cx, hXX⟩ : ∃ c, (rP W k).cs = c := ⟨_, rfl⟩
              rw [hLX] at L1 HE
              rw [hXX] at L1 HXs HX1 HXz HXf
              have HXv2 := hid (show (rP W k).v = .agg cx from by rw [HXv.out, hXX])
              have HLX := hid hLX
              clear hLX hXX HXv
              have hs9 : ¬ 9223372036854775807 < s.length + 1 := by omega
              refine wp_region_anyw (by kernel_rfl) ?_
              intro x0 he0 hb0
              have HX0 := hid (HXf.out.later hb0); have HR0 := hid (HRf.out.later hb0); have HB0 := hid (bth HBf.out hb0)
              clear he0 hb0
              refine wpAny_of_C (C := fun w' => Blk w' gx cx 27) _ _ _ _ ?_
              show wpAnyC _ _ _ _ _ 8 #[false, false, false, false, false, false, false, false] _ _
              refine wpAnyC_segN (fuel := 6) 2 0 (by kernel_rfl) (fun _ _ d _ _ h => by cases d <;> exact h) (by kernel_rfl) (by as_aux_lemma => kernel_rfl) ?_
              simp only [List.take_succ_cons, List.take_zero, List.drop_succ_cons, List.drop_zero]
              repeat (first
                | go_big_quiet_skip
                | (refine wpQuiet_load_aggG rfl 27 _ rfl ⟨gx, 0, none⟩ rfl cx _ (fun w' hw' => Blk.cells hw') Tryd.underlying27 rfl HXs.out ?_; simp only [Act.put, List.setIfInBounds_toArray, List.set_cons_succ, List.set_cons_zero]))
              refine wpQuiet_nil ?_
              simp only [segL, List.setIfInBounds_toArray, List.set_cons_succ, List.set_cons_zero]
              refine wpAnyC_segN (fuel := 4) 2 3 (by kernel_rfl) (fun _ _ d _ _ h => by cases d <;> exact h) (by kernel_rfl) (by as_aux_lemma => kernel_rfl) ?_
              simp only [List.take_succ_cons, List.take_zero, List.drop_succ_cons, List.drop_zero]
              repeat (first
                | go_big_quiet_skip
                | (go_big_quiet_want; go_big_quiet_op; first | go_big_quiet_on | (refine ⟨_, fun _ _ => rfl, ?_⟩; go_big_quiet_on)))
              refine wpQuiet_nil ?_
              simp only [segL, List.setIfInBounds_toArray, List.set_cons_succ, List.set_cons_zero]
              refine wpAnyC_forced (i := 2) (by kernel_rfl) rfl (HX0.out) ?_
              (first | dsimp only [List.getElem_toArray, List.getElem_cons_succ, List.getElem_cons_zero] | dsimp (maxSteps := 10000000) only [List.getElem_toArray, List.getElem_cons_succ, List.getElem_cons_zero] | skip); (first | go_frame | simp (maxSteps := 10000000) only [Act.put, List.setIfInBounds_toArray, List.set_cons_succ, List.set_cons_zero] | skip)
              go_wp2_with (go_at_call 15; refine (L1.out _).mono ?_; rintro e w5 ⟨rfl, hb5⟩)
              show wpAnyC _ _ _ _ _ _ _ _ _
              (first | dsimp only [List.getElem_toArray, List.getElem_cons_succ, List.getElem_cons_zero] | dsimp (maxSteps := 10000000) only [List.getElem_toArray, List.getElem_cons_succ, List.getElem_cons_zero] | skip); (first | go_frame | simp (maxSteps := 10000000) only [Act.put, List.setIfInBounds_toArray, List.set_cons_succ, List.set_cons_zero] | skip)
              have HX5 := hid (HX0.out.later hb5); have HR5 := hid (HR0.out.later hb5); have HB5 := hid (bth HB0.out hb5)
              refine wpAnyC_segN (fuel := 2) 1 5 (by kernel_rfl) (fun _ _ d _ _ h => by cases d <;> exact h) (by kernel_rfl) (by as_aux_lemma => kernel_rfl) ?_
              simp only [List.take_succ_cons, List.take_zero, List.drop_succ_cons, List.drop_zero]
              repeat (first
                | go_big_quiet_skip
                | (go_big_quiet_want; go_big_quiet_op; first | go_big_quiet_on | (refine ⟨_, fun _ _ => rfl, ?_⟩; go_big_quiet_on)))
              refine wpQuiet_nil ?_
              simp only [segL, List.setIfInBounds_toArray, List.set_cons_succ, List.set_cons_zero]
              refine wpAnyC_forced (i := 6) (by kernel_rfl) rfl (HX5.out) ?_
              (first | dsimp only [List.getElem_toArray, List.getElem_cons_succ, List.getElem_cons_zero] | dsimp (maxSteps := 10000000) only [List.getElem_toArray, List.getElem_cons_succ, List.getElem_cons_zero] | skip); (first | go_frame | simp (maxSteps := 10000000) only [Act.put, List.setIfInBounds_toArray, List.set_cons_succ, List.set_cons_zero] | skip)
              refine wpList_store_blk rfl 27 _ _ rfl w.heap.size rfl cx rfl _ 27 HR5.out (by rw [HXz.out]; rfl) HXs.out HX1.out ?_
              refine wpList_nil ?_
              show wpAnyC _ _ _ _ _ _ _ _ _
              (first | dsimp only [List.getElem_toArray, List.getElem_cons_succ, List.getElem_cons_zero] | dsimp (maxSteps := 10000000) only [List.getElem_toArray, List.getElem_cons_succ, List.getElem_cons_zero] | skip); (first | go_frame | simp (maxSteps := 10000000) only [Act.put, List.setIfInBounds_toArray, List.set_cons_succ, List.set_cons_zero] | skip)
              have HX6 := hid (HX5.out.setRow_ne (cs' := cx) (show gx ≠ w.heap.size by have := Hgx.out; omega))
              have HR6 := hid (HR5.out.setRow (cs' := cx))
              have HB6 := hid (HB5.out.setRow (g := w.heap.size) (Nat.le_refl _) cx)
              clear HX5 HR5 HB5 HX0 HR0 HB0 hb5
              refine wpAnyC_forced (i := 7) (by kernel_rfl) rfl (HX6.out) ?_
              (first | dsimp only [List.getElem_toArray, List.getElem_cons_succ, List.getElem_cons_zero] | dsimp (maxSteps := 10000000) only [List.getElem_toArray, List.getElem_cons_succ, List.getElem_cons_zero] | skip); (first | go_frame | simp (maxSteps := 10000000) only [Act.put, List.setIfInBounds_toArray, List.set_cons_succ, List.set_cons_zero] | skip)
              go_wp2_with fail
              show wpAnyC _ _ _ _ _ _ _ _ _
              (first | dsimp only [List.getElem_toArray, List.getElem_cons_succ, List.getElem_cons_zero] | dsimp (maxSteps := 10000000) only [List.getElem_toArray, List.getElem_cons_succ, List.getElem_cons_zero] | skip); (first | go_frame | simp (maxSteps := 10000000) only [Act.put, List.setIfInBounds_toArray, List.set_cons_succ, List.set_cons_zero] | skip)
              refine wpAnyC_done (by kernel_rfl) HX6.out ?_ _
              go_wp2_with fail
              refine bodyPost_ret (results_cell2 rfl _ w.heap.size 27 cx (0, 0) _ rfl HR6.out Tryd.underlying27 rfl HXs.out) rfl ⟨⟨rP W k, ?_, fun h => ⟨HXo.out, ?_⟩⟩, HB6.out⟩
              · rw [← HE.out, HXv2.out]; rfl
              · rw [HLX.out]; rw [← HE.out] at h; simpa using h
            | true =>
              rw [hT] at T1
              obtain ⟨i1, hi1⟩ : ∃ i1, 1 + i = i1 := ⟨_, rfl⟩
              have hi1I : (1 : Int) + (i : Int) = (i1 : Int) := by omega
              have hi1n : (i1 : Int) < (n4 : Int) := by omega
              have hi1k : (i1 : Int) ≤ 4 := by omega
              have cw : y9.cell? ⟨g2, i1, none⟩ = some (sv (at4 W i1)) := by
                rw [HO.out.cellAt i1 (by omega), List.getElem?_map, padL_at W i1 (by have := Hn.out; have := Hn4.out; omega)]; rfl
              have hVl : (at4 W i1).length ≤ s.length := by rw [← HW.out]; exact at4_len s i1
              have C1 := hid (rread_any (at4 W i1) y9 (by omega))
              have HP0 := hid (HP.out (readW (at4 W i1)) (by rw [hT, hi1]; rfl))
              clear hi1 hVl hT
              generalize at4 W i1 = V at *
              generalize readW V = U at *
              go_upto_region 16 with (first
                | (go_at_call 27; refine (T1.out _).mono ?_; rintro e w4 ⟨rfl, h4⟩; obtain rfl := h4.symm)
                | (go_at_call 35; refine C1.out.mono ?_; rintro e w5 ⟨rfl, hb5⟩; have cx : w5.cell? ⟨gx, 4, none⟩ = some (.string ⟨#[]⟩) := ((HX.out.later hb5).cell 4); have fx := Blk.free (HX.out.later hb5) 4))
              refine wp_world (fun W' => Blk W' gx (rP W k).cs 27 ∧ Blk W' w.heap.size zeroStp 27 ∧ Below w.heap.size w W') ⟨by rw [HP0.out]; exact (HX.out.later hb5).setCell 4 _, (HR.out.later hb5).setCell_ne (by have := Hgx.out; simp only; omega) _, (bth HB.out hb5).setCell (p := ⟨gx, 4, none⟩) (by have := Hgx.out; simp only; omega) _⟩ ?_
              rintro wz ⟨hXz, hRz, hBz⟩
              have HXf := hid hXz; have HRf := hid hRz; have HBf := hid hBz
              clear hXz hRz hBz
              obtain ⟨HE1, HXo1⟩ := see_rP s k Hk.out.1 (by rw [HW.out]; exact Hk.out.2)
              rw [HW.out] at HE1 HXo1
              have HE := hid HE1; have HXo := hid HXo1; clear HE1 HXo1
              have L1 := hid (fun w9 => rline_any (rP W k) w9 ⟨HXo.out.a, HXo.out.b, HXo.out.c⟩ (rP_text s W k HW.out hs2))
              have HXs := hid (show (Tryd.prog.info? 27).map (·.size) = some (rP W k).cs.size from Tryd.sizeStepR)
              have HX1 := hid (stp_one (rP W k))
              have HXv := hid (show (rP W k).v = .agg (rP W k).cs from rfl)
              unfold Stp.v at L1
              have HXz := hid (show (rP W k).cs.size = 5 from rfl)
              obtain ⟨LX, hLX⟩ : ∃ L, lineL (rP W k) = L := ⟨_, rfl⟩
              obtain ⟨cx, hXX⟩ : ∃ c, (rP W k).cs = c := ⟨_, rfl⟩
              rw [hLX] at L1 HE
              rw [hXX] at L1 HXs HX1 HXz HXf
              have HXv2 := hid (show (rP W k).v = .agg cx from by rw [HXv.out, hXX])
              have HLX := hid hLX
              clear hLX hXX HXv
              have hs9 : ¬ 9223372036854775807 < s.length + 1 := by omega
              refine wp_region_anyw (by kernel_rfl) ?_
              intro x0 he0 hb0
              have HX0 := hid (HXf.out.later hb0); have HR0 := hid (HRf.out.later hb0); have HB0 := hid (bth HBf.out hb0)
              clear he0 hb0
              refine wpAny_of_C (C := fun w' => Blk w' gx cx 27) _ _ _ _ ?_
              show wpAnyC _ _ _ _ _ 8 #[false, false, false, false, false, false, false, false] _ _
              refine wpAnyC_segN (fuel := 6) 2 0 (by kernel_rfl) (fun _ _ d _ _ h => by cases d <;> exact h) (by kernel_rfl) (by as_aux_lemma => kernel_rfl) ?_
              simp only [List.take_succ_cons, List.take_zero, List.drop_succ_cons, List.drop_zero]
              repeat (first
                | go_big_quiet_skip
                | (refine wpQuiet_load_aggG rfl 27 _ rfl ⟨gx, 0, none⟩ rfl cx _ (fun w' hw' => Blk.cells hw') Tryd.underlying27 rfl HXs.out ?_; simp only [Act.put, List.setIfInBounds_toArray, List.set_cons_succ, List.set_cons_zero]))
              refine wpQuiet_nil ?_
              simp only [segL, List.setIfInBounds_toArray, List.set_cons_succ, List.set_cons_zero]
              refine wpAnyC_segN (fuel := 4) 2 3 (by kernel_rfl) (fun _ _ d _ _ h => by cases d <;> exact h) (by kernel_rfl) (by as_aux_lemma => kernel_rfl) ?_
              simp only [List.take_succ_cons, List.take_zero, List.drop_succ_cons, List.drop_zero]
              repeat (first
                | go_big_quiet_skip
                | (go_big_quiet_want; go_big_quiet_op; first | go_big_quiet_on | (refine ⟨_, fun _ _ => rfl, ?_⟩; go_big_quiet_on)))
              refine wpQuiet_nil ?_
              simp only [segL, List.setIfInBounds_toArray, List.set_cons_succ, List.set_cons_zero]
              refine wpAnyC_forced (i := 2) (by kernel_rfl) rfl (HX0.out) ?_
              (first | dsimp only [List.getElem_toArray, List.getElem_cons_succ, List.getElem_cons_zero] | dsimp (maxSteps := 10000000) only [List.getElem_toArray, List.getElem_cons_succ, List.getElem_cons_zero] | skip); (first | go_frame | simp (maxSteps := 10000000) only [Act.put, List.setIfInBounds_toArray, List.set_cons_succ, List.set_cons_zero] | skip)
              go_wp2_with (go_at_call 15; refine (L1.out _).mono ?_; rintro e w5 ⟨rfl, hb5⟩)
              show wpAnyC _ _ _ _ _ _ _ _ _
              (first | dsimp only [List.getElem_toArray, List.getElem_cons_succ, List.getElem_cons_zero] | dsimp (maxSteps := 10000000) only [List.getElem_toArray, List.getElem_cons_succ, List.getElem_cons_zero] | skip); (first | go_frame | simp (maxSteps := 10000000) only [Act.put, List.setIfInBounds_toArray, List.set_cons_succ, List.set_cons_zero] | skip)
              have HX5 := hid (HX0.out.later hb5); have HR5 := hid (HR0.out.later hb5); have HB5 := hid (bth HB0.out hb5)
              refine wpAnyC_segN (fuel := 2) 1 5 (by kernel_rfl) (fun _ _ d _ _ h => by cases d <;> exact h) (by kernel_rfl) (by as_aux_lemma => kernel_rfl) ?_
              simp only [List.take_succ_cons, List.take_zero, List.drop_succ_cons, List.drop_zero]
              repeat (first
                | go_big_quiet_skip
                | (go_big_quiet_want; go_big_quiet_op; first | go_big_quiet_on | (refine ⟨_, fun _ _ => rfl, ?_⟩; go_big_quiet_on)))
              refine wpQuiet_nil ?_
              simp only [segL, List.setIfInBounds_toArray, List.set_cons_succ, List.set_cons_zero]
              refine wpAnyC_forced (i := 6) (by kernel_rfl) rfl (HX5.out) ?_
              (first | dsimp only [List.getElem_toArray, List.getElem_cons_succ, List.getElem_cons_zero] | dsimp (maxSteps := 10000000) only [List.getElem_toArray, List.getElem_cons_succ, List.getElem_cons_zero] | skip); (first | go_frame | simp (maxSteps := 10000000) only [Act.put, List.setIfInBounds_toArray, List.set_cons_succ, List.set_cons_zero] | skip)
              refine wpList_store_blk rfl 27 _ _ rfl w.heap.size rfl cx rfl _ 27 HR5.out (by rw [HXz.out]; rfl) HXs.out HX1.out ?_
              refine wpList_nil ?_
              show wpAnyC _ _ _ _ _ _ _ _ _
              (first | dsimp only [List.getElem_toArray, List.getElem_cons_succ, List.getElem_cons_zero] | dsimp (maxSteps := 10000000) only [List.getElem_toArray, List.getElem_cons_succ, List.getElem_cons_zero] | skip); (first | go_frame | simp (maxSteps := 10000000) only [Act.put, List.setIfInBounds_toArray, List.set_cons_succ, List.set_cons_zero] | skip)
              have HX6 := hid (HX5.out.setRow_ne (cs' := cx) (show gx ≠ w.heap.size by have := Hgx.out; omega))
              have HR6 := hid (HR5.out.setRow (cs' := cx))
              have HB6 := hid (HB5.out.setRow (g := w.heap.size) (Nat.le_refl _) cx)
              clear HX5 HR5 HB5 HX0 HR0 HB0 hb5
              refine wpAnyC_forced (i := 7) (by kernel_rfl) rfl (HX6.out) ?_
              (first | dsimp only [List.getElem_toArray, List.getElem_cons_succ, List.getElem_cons_zero] | dsimp (maxSteps := 10000000) only [List.getElem_toArray, List.getElem_cons_succ, List.getElem_cons_zero] | skip); (first | go_frame | simp (maxSteps := 10000000) only [Act.put, List.setIfInBounds_toArray, List.set_cons_succ, List.set_cons_zero] | skip)
              go_wp2_with fail
              show wpAnyC _ _ _ _ _ _ _ _ _
              (first | dsimp only [List.getElem_toArray, List.getElem_cons_succ, List.getElem_cons_zero] | dsimp (maxSteps := 10000000) only [List.getElem_toArray, List.getElem_cons_succ, List.getElem_cons_zero] | skip); (first | go_frame | simp (maxSteps := 10000000) only [Act.put, List.setIfInBounds_toArray, List.set_cons_succ, List.set_cons_zero] | skip)
              refine wpAnyC_done (by kernel_rfl) HX6.out ?_ _
              go_wp2_with fail
              refine bodyPost_ret (results_cell2 rfl _ w.heap.size 27 cx (0, 0) _ rfl HR6.out Tryd.underlying27 rfl HXs.out) rfl ⟨⟨rP W k, ?_, fun h => ⟨HXo.out, ?_⟩⟩, HB6.out⟩
              · rw [← HE.out, HXv2.out]; rfl
              · rw [HLX.out]; rw [← HE.out] at h; simpa using h
      · have hne : (wordT k == w0) = false := by simpa using hw
        have HNo2 := hid (show ∀ m, 1 ≤ m → m < k + 1 → wordT m ≠ at4 W 0 from fun m h1 h2 => by
          by_cases hm : m < k
          · exact HNo.out m h1 hm
          · rw [show m = k by omega, hw0]; exact hw)
        clear hw hw0
        generalize wordT k = T at *
        refine wp_region_later (by kernel_rfl) (by kernel_rfl) ?_
        repeat (first
          | go_big_quiet_skip
          | (refine wpQuiet_load_one rfl 9 _ rfl ⟨g, 0, none⟩ rfl (sv w0) _ (by rintro _ ⟨q, rfl⟩; exact Q1.out q) Tryd.underlying9 rfl ?_; simp only [Act.put, List.setIfInBounds_toArray, List.set_cons_succ, List.set_cons_zero])
          | go_big_quiet_step ((first | (go_at_call 24; with_reducible exact calls_later (D1.out _)))))
        refine wpQuiet_nil ?_
        rintro _ ⟨q6, rfl⟩
        have hb6 := lat_below q6
        generalize lat q6 = w6 at *
        go_wp2
        go_roundw
        case rel => exact ⟨k + 1, by omega, by omega, rfl, by go_num, HNo2.out, HR.out.later hb6, HO.out.later hb6, bth HB.out hb6⟩
        case measure => simp [intOf]; omega
    · have hkI : ¬ (k : Int) ≤ 13 := by omega
      have hd : decide ((k : Int) ≤ 13) = false := decide_eq_false hkI
      obtain rfl : k = 14 := by omega
      have HE := hid (stepB_none s (fun m h1 h2 => by rw [HW.out]; exact HNo.out m h1 h2))
      clear hkI hlt
      go_wp2_with ((with_reducible show wpList _ _ _ ({ dst := _, op := Op.store _ _ _, type := _, pos := _, after := _, guard := _ } :: _) _ _); refine wpList_store_blk rfl 27 _ _ rfl w.heap.size rfl zeroStp rfl _ 27 HR.out rfl Tryd.sizeStepR zeroStp_one ?_)
      have HR9 := hid (HR.out.setRow (cs' := zeroStp))
      have HB9 := hid (HB.out.setRow (g := w.heap.size) (by omega) zeroStp)
      refine bodyPost_ret (results_cell2 rfl _ w.heap.size 27 zeroStp (0, 0) _ rfl HR9.out Tryd.underlying27 rfl Tryd.sizeStepR) rfl ⟨⟨⟨0, 0, 0, 0, []⟩, ?_, fun h => ?_⟩, HB9.out⟩
      · rw [HE.out]; rfl
      · rw [HE.out] at h; cases h
end Go.Proofs.YtdefipnmjfnpeaaDoor
