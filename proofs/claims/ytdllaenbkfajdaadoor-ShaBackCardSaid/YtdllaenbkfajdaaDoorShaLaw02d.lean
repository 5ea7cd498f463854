/- the law ShaBack: the walk -/
import Derived.Test.YtdllaenbkfajdaaDoorShaLaw02
import Derived.Test.YtdllaenbkfajdaaDoorShaBackLaw
import Derived.Test.YtdllaenbkfajdaaDoorSeq
import Derived.Test.YtdllaenbkfajdaaDoorTreeNode
import Derived.Deep.DeepCutAuto
set_option maxRecDepth 100000
namespace Go.Proofs.YtdllaenbkfajdaaDoor
open Go.RowKit Go.Spec
theorem Tryd.guardHash2 : Tryd.prog.eqGuardType Tryd.prog.depth 25 = false := by kernel_rfl
theorem cut_set2 (t : List UInt8) (k : Nat) (hk : k < t.length) (x : UInt8) : t.take k ++ x :: t.drop (k + 1) = t.set k x := by
  rw [List.set_eq_take_append_cons_drop, if_pos hk]
theorem dig_cases (x : UInt8) :
    (digB x = true ∧ decide (48 ≤ (x.toNat : Int)) = true ∧ decide ((x.toNat : Int) ≤ 57) = true) ∨
    (digB x = true ∧ decide (48 ≤ (x.toNat : Int)) = true ∧ decide ((x.toNat : Int) ≤ 57) = false ∧ decide (97 ≤ (x.toNat : Int)) = true ∧ decide ((x.toNat : Int) ≤ 102) = true) ∨
    (digB x = false ∧ decide (48 ≤ (x.toNat : Int)) = false ∧ decide (97 ≤ (x.toNat : Int)) = false) ∨
    (digB x = false ∧ decide (48 ≤ (x.toNat : Int)) = true ∧ decide ((x.toNat : Int) ≤ 57) = false ∧ decide (97 ≤ (x.toNat : Int)) = false) ∨
    (digB x = false ∧ decide (48 ≤ (x.toNat : Int)) = true ∧ decide ((x.toNat : Int) ≤ 57) = false ∧ decide (97 ≤ (x.toNat : Int)) = true ∧ decide ((x.toNat : Int) ≤ 102) = false) := by
  rw [digB_eq]
  generalize x.toNat = n
  simp only [decide_eq_true_eq, decide_eq_false_iff_not, Bool.or_eq_true, Bool.and_eq_true, Bool.or_eq_false_iff, Bool.and_eq_false_iff]
  omega
set_option maxHeartbeats 4000000 in
theorem shaBack_law (h l : List UInt8) (x0 x1 : UInt8) (w : World) (hh : h.length = 32) (hl : l.length ≤ 9223372036854775807) (hG : ShaG w) :
    Calls Tryd.prog 8 #[hv h, sv l, hv [x0, x1]] w fun e w' => e = .returned (.bool true) ∧ Below w.heap.size w w' := by
  have HG := hid hG; clear hG
  have HB0 : Below w.heap.size w ((w.alloc (.cells (hc h) 25)).alloc (.cells (hc [x0, x1]) 40)) := ((Below.refl _ w).alloc (Nat.le_refl _) _).alloc (by simp) _
  have HB := HB0
  have hBh : Blk ((w.alloc (.cells (hc h) 25)).alloc (.cells (hc [x0, x1]) 40)) w.heap.size (hc h) 25 := (Blk.new w (hc h) 25).alloc _
  have hBx : Blk ((w.alloc (.cells (hc h) 25)).alloc (.cells (hc [x0, x1]) 40)) (w.heap.size + 1) (hc [x0, x1]) 40 := Blk.new' _ _ _ (by simp)
  have Hh := hid hh; clear hh
  by_cases h1 : 100 < l.length
  · have hd : decide ((100 : Int) < (l.length : Int)) = true := by simp; omega
    clear h1
    go_enter Tryd.func8, Tryd.ntmps8
    go_wp2_with (go_at_call 22; refine (hashed_any _ (HG.out.later HB)).mono ?_; rintro e w1 ⟨rfl, hb⟩; replace HB := bth HB hb; clear hb)
    go_ret
    exact ⟨rfl, HB⟩
  · have hd : decide ((100 : Int) < (l.length : Int)) = false := by simp; omega
    have hl2 : l.length ≤ 1000000000 := by omega
    clear h1
    have hx := Hh.out
    have Hs1 := hid (show (Tryd.prog.info? 25).map (·.size) = some (hc h).size by rw [hc_size, Hh.out]; exact Tryd.sizeHash)
    have HT64 := hid (show (hexL h).length = 64 by rw [hexL_len, Hh.out])
    have Hl1 := hid (show (hc h).size = (hc zero32).size by rw [hc_size, Hh.out]; rfl)
    have hs5 := Tryd.sizeU8
    have hge := Tryd.guardHash2
    have hz32 : zero32.length = 32 := rfl
    have PT : ∀ w0, Calls Tryd.prog 25 #[sv (hexL h)] w0 fun e w' => e = .returned (.tuple #[hv h, .bool true]) ∧ Below w0.heap.size w0 w' := fun w0 =>
      (parse_any (hexL h) w0 (by rw [HT64.out]; omega)).mono fun _ _ ⟨a, b⟩ => ⟨by rw [a, (pr_hex h Hh.out).1, (pr_hex h Hh.out).2], b⟩
    have PL : ∀ w0, Calls Tryd.prog 25 #[sv l] w0 fun e w' => e = .returned (.tuple #[hv (prH l), .bool (prB l)]) ∧ Below w0.heap.size w0 w' := fun w0 => parse_any l w0 hl2
    have HX : ∀ w0, Calls Tryd.prog 27 #[hv h] w0 fun e w' => e = .returned (sv (hexL h)) ∧ Below w0.heap.size w0 w' := fun w0 => hex_any h w0 Hh.out
    have HY : prB l = true → ∀ w0, Calls Tryd.prog 27 #[hv (prH l)] w0 fun e w' => e = .returned (sv l) ∧ Below w0.heap.size w0 w' := fun hb w0 =>
      (hex_any (prH l) w0 (prH_len l)).mono fun _ _ ⟨a, b⟩ => ⟨by rw [a, hex_pr l hb], b⟩
    have PT := hid PT; have PL := hid PL; have HX := hid HX; have HY := hid HY
    have Hno := hid (pr_no l)
    have Hs2 := hid (show (Tryd.prog.info? 25).map (·.size) = some (hc (prH l)).size by rw [hc_size, prH_len]; exact Tryd.sizeHash)
    have Hl2 := hid (show (hc (prH l)).size = (hc zero32).size by rw [hc_size, prH_len]; rfl)
    have hpl := prH_len l
    obtain ⟨k, hk⟩ : ∃ k, x0.toNat % 64 = k := ⟨_, rfl⟩
    have e0 : (x0.toNat : Int) % 64 = (k : Int) := by omega
    have hk64 : k < 64 := by omega
    have e0b : (wrap64 (x0.toNat : Int)).tmod 64 = (k : Int) := by
      have hx0 := x0.toNat_lt
      rw [show wrap64 (x0.toNat : Int) = (x0.toNat : Int) by unfold wrap64; omega, Int.tmod_eq_emod_of_nonneg (by omega)]
      exact e0
    have hUe := cut_set2 (hexL h) k (by rw [HT64.out]; exact hk64) x1
    have HU := hid (cut_set (hexL h) k (by rw [HT64.out]; exact hk64) x1)
    have HC := hid (back_eq h Hh.out k hk64 x1)
    have HO := hid (pr_set h Hh.out k hk64 x1)
    have HUl := hid (show ((hexL h).set k x1).length = 64 by rw [List.length_set, HT64.out])
    have Hdig := hid (digB_eq x1)
    clear hk
    generalize prH l = B at *
    generalize prB l = bs at *
    have ht64 : (hexL h).length = 64 := HT64.out
    generalize hexL h = T at *
    generalize hU : T.set k x1 = U at *
    have PU : ∀ w0, Calls Tryd.prog 25 #[sv U] w0 fun e w' => e = .returned (.tuple #[hv (prH U), .bool (digB x1)]) ∧ Below w0.heap.size w0 w' := fun w0 =>
      (parse_any U w0 (by rw [HUl.out]; omega)).mono fun _ _ ⟨a, b⟩ => ⟨by rw [a, HO.out]; rfl, b⟩
    have PU := hid PU
    clear hU
    have Hs3 := hid (show (Tryd.prog.info? 25).map (·.size) = some (hc (prH U)).size by rw [hc_size, prH_len]; exact Tryd.sizeHash)
    have Hl3 := hid (show (hc (prH U)).size = (hc zero32).size by rw [hc_size, prH_len]; rfl)
    have hcl := prH_len U
    have HC2 := hid (show (prH U == h) = (digB x1 && (U == T) || !digB x1 && (h == zero32)) from HC.out)
    generalize prH U = C at *
    clear HC HO
    go_enter Tryd.func8, Tryd.ntmps8
    go_wp2_with ((with_reducible show wpList _ _ _ ({ dst := _, op := Op.load 25 _, type := _, pos := _, after := _, guard := _ } :: _) _ _); refine wpList_load_blk rfl 25 _ rfl w.heap.size rfl _ (hc h) _ hBh Tryd.underlying25 rfl Hs1.out ?_)
    refine (HX.out _).mono ?_
    rintro e w1 ⟨rfl, hb⟩
    replace HB := bth HB hb
    replace hBh := hBh.later hb
    replace hBx := hBx.later hb
    clear hb
    go_wp2_with fail
    refine (PT.out _).mono ?_
    rintro e w2 ⟨rfl, hb⟩
    replace HB := bth HB hb
    replace hBh := hBh.later hb
    replace hBx := hBx.later hb
    clear hb
    go_wp2_with ((with_reducible show wpList _ _ _ ({ dst := _, op := Op.store _ _ _, type := _, pos := _, after := _, guard := _ } :: _) _ _); refine wpList_store_blk rfl 25 _ _ rfl w2.heap.size rfl (hc h) rfl _ _ (Blk.new w2 (hc zero32) 25) Hl1.out Hs1.out (hc_row_one _) ?_)
    have hB8 := (Blk.new w2 (hc zero32) 25).setRow (cs' := hc h)
    have hBh1 := (hBh.alloc (.cells (hc zero32) 25)).setRow_ne (k := w2.heap.size) (cs' := hc h) (by have := hBh.lt; omega)
    have hBx1 := (hBx.alloc (.cells (hc zero32) 25)).setRow_ne (k := w2.heap.size) (cs' := hc h) (by have := hBx.lt; omega)
    replace HB := (HB.alloc HB.size (.cells (hc zero32) 25)).setRow HB.size (hc h)
    refine (PL.out _).mono ?_
    rintro e w3 ⟨rfl, hb⟩
    replace HB := bth HB hb
    replace hB8 := hB8.later hb
    replace hBh1 := hBh1.later hb
    replace hBx1 := hBx1.later hb
    clear hb hBh hBx HB0
    go_upto_region 6 with ((with_reducible show wpList _ _ _ ({ dst := _, op := Op.store _ _ _, type := _, pos := _, after := _, guard := _ } :: _) _ _); refine wpList_store_blk rfl 25 _ _ rfl w3.heap.size rfl (hc B) rfl _ _ (Blk.new w3 (hc zero32) 25) Hl2.out Hs2.out (hc_row_one _) ?_)
    have hB10 := (Blk.new w3 (hc zero32) 25).setRow (cs' := hc B)
    have hBh2 := (hBh1.alloc (.cells (hc zero32) 25)).setRow_ne (k := w3.heap.size) (cs' := hc B) (by have := hBh1.lt; omega)
    have hBx2 := (hBx1.alloc (.cells (hc zero32) 25)).setRow_ne (k := w3.heap.size) (cs' := hc B) (by have := hBx1.lt; omega)
    have hB82 := (hB8.alloc (.cells (hc zero32) 25)).setRow_ne (k := w3.heap.size) (cs' := hc B) (by have := hB8.lt; omega)
    replace HB := (HB.alloc HB.size (.cells (hc zero32) 25)).setRow HB.size (hc B)
    clear hB8 hBh1 hBx1
    have go : bs = true ∨ (bs = false ∧ B = zero32) := by
      cases bs with
      | true => exact .inl rfl
      | false => exact .inr ⟨rfl, Hno.out rfl⟩
    show Code.wp _ _ _ _ ((w3.alloc (.cells (hc zero32) 25)).setRow w3.heap.size (hc B))
    generalize hw5 : (w3.alloc (.cells (hc zero32) 25)).setRow w3.heap.size (hc B) = w5 at *
    clear hw5
    have HG5 := hid (HG.out.later HB)
    have Gr := hid (fun (w6 : World) (h6 : Below w5.heap.size w5 w6) => hashed_any w6 (HG5.out.later h6))
    have H82 := hid hB82; have H10 := hid hB10; have HBh2 := hid hBh2; have HBx2 := hid hBx2
    have hne : (h != h) = false := by simp
    have hnT : (T != T) = false := by simp
    clear hB82 hB10 hBh2 hBx2
    have HB5 := HB
    have hkI : (k : Int) + 1 ≤ 64 := by omega
    have hkI2 : (k : Int) ≤ 64 := by omega
    have hkN : k + 1 ≤ 64 := by omega
    have hkP : (0 : Int) ≤ (k : Int) + 1 := by omega
    have hT64 : T.take 64 = T := List.take_of_length_le (by omega)
    have w64 := IntWalk.i64_in ((k : Int) + 1) (by omega)
    have w64b : wrap64 ((k : Int) + 1) = (k : Int) + 1 := by unfold wrap64; omega
    have hcv : ∀ (W0 : World) (g : Nat), g = W0.heap.size → (convert 41 9 (.slice (some ⟨g, 0, none⟩) 1 1)).run Tryd.prog (W0.alloc (.cells #[.int .u8 (x1.toNat : Int)] 5)) = .ok (sv [x1]) (W0.alloc (.cells #[.int .u8 (x1.toNat : Int)] 5)) := by
      rintro W0 g rfl
      exact run_convert_bytes_back (P := Tryd.prog) (w := W0.alloc (.cells #[.int .u8 (x1.toNat : Int)] 5)) 41 9 5 ⟨W0.heap.size, 0, none⟩ 1 [x1] Tryd.underlying41 Tryd.underlying5 Tryd.underlying9 (fun j hj => by
        have hj0 : j = 0 := by simpa using hj
        subst hj0
        rw [cell_at_row (heap_alloc_new W0 _)]; rfl)
    have Hcv := hid hcv
    clear hcv
    rcases go with rfl | ⟨rfl, rfl⟩
    all_goals
      refine wp_region_seq_later ?_
      repeat (first
        | go_big_quiet_skip
        | (refine wpQuiet_load_later rfl 25 _ rfl w2.heap.size rfl (hc h) 25 _ H82.out Tryd.underlying25 rfl Hs1.out ?_; simp only [Act.put, List.setIfInBounds_toArray, List.set_cons_succ, List.set_cons_zero])
        | (refine wpQuiet_load_later rfl 25 _ rfl w.heap.size rfl (hc h) 25 _ HBh2.out Tryd.underlying25 rfl Hs1.out ?_; simp only [Act.put, List.setIfInBounds_toArray, List.set_cons_succ, List.set_cons_zero])
        | (refine wpQuiet_load_later rfl 25 _ rfl w3.heap.size rfl (hc _) 25 _ H10.out Tryd.underlying25 rfl Hs2.out ?_; simp only [Act.put, List.setIfInBounds_toArray, List.set_cons_succ, List.set_cons_zero])
        | (refine wpQuiet_buildV rfl 25 rfl (hv zero32) Tryd.zeroHash ?_; simp only [Act.put, List.setIfInBounds_toArray, List.set_cons_succ, List.set_cons_zero])
        | go_big_quiet_step ((first | (go_at_call 27; with_reducible exact calls_later (HY.out rfl _)))))
      refine wpQuiet_nil ?_
      rintro _ ⟨q4, rfl⟩
      have hb4 := lat_below q4
      generalize lat q4 = w4 at *
      have hX := HBx2.out.later hb4
      have cx0 : w4.cell? ⟨w.heap.size + 1, 0, none⟩ = some (.int .u8 (x0.toNat : Int)) := hX.u8 0 (by simp)
      have cx1 : w4.cell? ⟨w.heap.size + 1, 1, none⟩ = some (.int .u8 (x1.toNat : Int)) := hX.u8 1 (by simp)
      have Hb4 := hid hb4
      clear hX hb4
      go_wp2_with fail
      refine wp_region_anyw (by kernel_rfl) ?_
      intro w6 he6 hb6
      have cx6 : w6.cell? ⟨w.heap.size + 1, 1, none⟩ = some (.int .u8 (x1.toNat : Int)) := by
        unfold World.cell? at cx1 ⊢; rw [he6]; exact cx1
      clear cx0 cx1
      show wpAny _ _ _ _ 14 (Array.replicate 14 false) _ _
      refine wpAny_take (i := 0) (v := sv T) rfl (by kernel_rfl) (by kernel_rfl) (by kernel_rfl) (fun _ _ _ h => h) (Or.inl ⟨by rfl, ?_⟩) ?_
      · intro w; go_simp
      refine wpAny_take (i := 1) (v := .int .i64 k) rfl (by kernel_rfl) (by kernel_rfl) (by kernel_rfl) (fun _ _ _ h => h) (Or.inl ⟨by rfl, ?_⟩) ?_
      · intro w; go_simp
      refine wpAny_take (i := 2) (v := sv (T.take k)) rfl (by kernel_rfl) (by kernel_rfl) (by kernel_rfl) (fun _ _ _ h => h) (Or.inl ⟨by rfl, ?_⟩) ?_
      · intro w
        go_simp
        try (intro hq; exfalso; omega)
      refine wpAny_take (i := 3) (v := .pointer (some ⟨w.heap.size + 1, 1, none⟩)) rfl (by kernel_rfl) (by kernel_rfl) (by kernel_rfl) (fun _ _ _ h => h) (Or.inl ⟨by rfl, ?_⟩) ?_
      · intro w; go_simp
      refine wpAny_take (i := 8) (v := sv T) rfl (by kernel_rfl) (by kernel_rfl) (by kernel_rfl) (fun _ _ _ h => h) (Or.inl ⟨by rfl, ?_⟩) ?_
      · intro w; go_simp
      refine wpAny_take (i := 9) (v := .int .i64 k) rfl (by kernel_rfl) (by kernel_rfl) (by kernel_rfl) (fun _ _ _ h => h) (Or.inl ⟨by rfl, ?_⟩) ?_
      · intro w; go_simp
      refine wpAny_take (i := 10) (v := .int .i64 ((k : Int) + 1)) rfl (by kernel_rfl) (by kernel_rfl) (by kernel_rfl) (fun _ _ _ h => h) (Or.inl ⟨by rfl, ?_⟩) ?_
      · intro w; go_simp
      refine wpAny_take (i := 11) (v := sv (T.drop (k + 1))) rfl (by kernel_rfl) (by kernel_rfl) (by kernel_rfl) (fun _ _ _ h => h) (Or.inl ⟨by rfl, ?_⟩) ?_
      · intro w
        go_simp
        try (intro hq; exfalso; omega)
      clear e0 e0b w64 w64b
      refine wpAny_forced (i := 4) (by kernel_rfl) rfl ?_
      go_wp2_with fail
      refine wpAny_forced (i := 5) (by kernel_rfl) rfl ?_
      go_wp2_with fail
      have hcv := Hcv.out w6 w4.heap.size (by rw [he6])
      refine wpAny_forced (i := 6) (by kernel_rfl) rfl ?_
      go_wp2_with fail
      refine wpAny_forced (i := 7) (by kernel_rfl) rfl ?_
      go_wp2_with fail
      refine wpAny_forced (i := 12) (by kernel_rfl) rfl ?_
      go_wp2_with fail
      refine wpAny_forced (i := 13) (by kernel_rfl) rfl ?_
      go_wp2_with fail
      refine wpAny_done (by kernel_rfl) ?_ _
      have HB6 := bth (bth HB5 Hb4.out) hb6
      have HB7 := HB6.alloc HB6.size (.cells #[.int .u8 (x1.toNat : Int)] 5)
      go_upto_region 11 with (first
        | (go_at_call 25; refine (PU.out _).mono ?_; rintro e w8 ⟨rfl, hb8⟩)
        | ((with_reducible show wpList _ _ _ ({ dst := _, op := Op.store _ _ _, type := _, pos := _, after := _, guard := _ } :: _) _ _); refine wpList_store_blk rfl 25 _ _ rfl w8.heap.size rfl (hc C) rfl _ _ (Blk.new w8 (hc zero32) 25) Hl3.out Hs3.out (hc_row_one _) ?_))
      have HB8 := bth HB7 hb8
      have HA9 := HB8.alloc HB8.size (.cells (hc zero32) 25)
      have HB9 := HA9.setRow (g := w8.heap.size) HB8.size (hc C)
      have hBC := hid ((Blk.new w8 (hc zero32) 25).setRow (cs' := hc C))
      have hlx : w.heap.size + 1 < w8.heap.size := by
        have h1 := HBx2.out.lt
        have h2 := Hb4.out.size
        have h3 := hb6.size
        have h4 := hb8.size
        simp at h4
        omega
      have hb48 : Below w5.heap.size w5 w8 := bth (bth Hb4.out hb6) ((((Below.refl _ w6).alloc (Nat.le_refl _) (.cells #[.int .u8 (x1.toNat : Int)] 5))).trans (hb8.mono (by simp)))
      have hBx9 := ((HBx2.out.later hb48).alloc (.cells (hc zero32) 25)).setRow_ne (k := w8.heap.size) (cs' := hc C) (by omega)
      have hBh9 := hid (((HBh2.out.later hb48).alloc (.cells (hc zero32) 25)).setRow_ne (k := w8.heap.size) (cs' := hc C) (by omega))
      show Code.wp _ _ _ _ ((w8.alloc (.cells (hc zero32) 25)).setRow w8.heap.size (hc C))
      generalize hw9 : (w8.alloc (.cells (hc zero32) 25)).setRow w8.heap.size (hc C) = w9 at *
      clear hw9
      have hlx9 : w.heap.size + 1 < w9.heap.size := hBx9.lt
      have cx9 : w9.cell? ⟨w.heap.size + 1, 1, none⟩ = some (.int .u8 (x1.toNat : Int)) := hBx9.u8 1 (by simp)
      have hcx9 : ∀ x : Later w9, (lat x).cell? ⟨w.heap.size + 1, 1, none⟩ = some (.int .u8 (x1.toNat : Int)) := fun x => (lat_cell x _ _ hlx9).trans cx9
      have HB9h := hid HB9
      have Gr9 := hid (fun (x : Later w9) => hashed_any (lat x) (HG.out.later (bth HB9h.out (lat_below x))))
      have HC3 := HC2.out
      clear hb6 hb8 hb48 hBx9 HB6 HB7 HB8 HA9 HB9 he6 hcv cx6 HBx2 HBh2 H82 H10 Hb4 HB5 HB
      go_cut [16] (fun s wx => s = .bool (digB x1) ∧ Below w9.heap.size w9 wx)
      case first =>
        rcases dig_cases x1 with ⟨q0, q1, q2⟩ | ⟨q0, q1, q2, q3, q4⟩ | ⟨q0, q1, q3⟩ | ⟨q0, q1, q2, q3⟩ | ⟨q0, q1, q2, q3, q4⟩
        all_goals
          refine wp_region_seq_later ?_
          repeat go_big_quiet_step (fail)
          refine wpQuiet_nil ?_
          rintro _ ⟨q10, rfl⟩
          have hb10 := lat_below q10
          generalize lat q10 = w10 at *
          go_wp2_with fail
          go_meet
          exact ⟨by rw [q0], hb10⟩
      case rest =>
        obtain ⟨rfl, hb10⟩ := hcut
        have hBC10 := hid (hBC.out.later hb10)
        have hBh10 := hid (hBh9.out.later hb10)
        have Gr10 := hid (fun (x : Later wc) => hashed_any (lat x) (HG.out.later (bth (bth HB9h.out hb10) (lat_below x))))
        cases hdg : digB x1
        · rw [hdg] at HC3
          simp only [Bool.true_and, Bool.not_false, Bool.false_and, Bool.false_or] at HC3
          generalize hz0 : (h == zero32) = z at HC3
          go_wp2_with fail
          refine wp_region_later (by kernel_rfl) (by kernel_rfl) ?_
          repeat (first
            | go_big_quiet_skip
            | (refine wpQuiet_load_later rfl 25 _ rfl w8.heap.size rfl (hc C) 25 _ hBC10.out Tryd.underlying25 rfl Hs3.out ?_; simp only [Act.put, List.setIfInBounds_toArray, List.set_cons_succ, List.set_cons_zero])
            | (refine wpQuiet_load_later rfl 25 _ rfl w.heap.size rfl (hc h) 25 _ hBh10.out Tryd.underlying25 rfl Hs1.out ?_; simp only [Act.put, List.setIfInBounds_toArray, List.set_cons_succ, List.set_cons_zero])
            | (refine wpQuiet_buildV rfl 25 rfl (hv zero32) Tryd.zeroHash ?_; simp only [Act.put, List.setIfInBounds_toArray, List.set_cons_succ, List.set_cons_zero])
            | go_big_quiet_step ((first | (go_at_call 22; with_reducible exact calls_later (Gr10.out _)))))
          refine wpQuiet_nil ?_
          rintro _ ⟨q11, rfl⟩
          have hb11 := lat_below q11
          generalize lat q11 = w11 at *
          go_wp2
          go_ret
          exact ⟨rfl, bth (bth HB9h.out hb10) hb11⟩
        · rw [hdg] at HC3
          simp only [Bool.true_and, Bool.not_true, Bool.false_and, Bool.or_false] at HC3
          rcases Bool.eq_false_or_eq_true (U == T) with u0 | u0
          all_goals
            rw [u0] at HC3
            go_wp2_with fail
            refine wp_region_later (by kernel_rfl) (by kernel_rfl) ?_
            repeat (first
              | go_big_quiet_skip
              | (refine wpQuiet_load_later rfl 25 _ rfl w8.heap.size rfl (hc C) 25 _ hBC10.out Tryd.underlying25 rfl Hs3.out ?_; simp only [Act.put, List.setIfInBounds_toArray, List.set_cons_succ, List.set_cons_zero])
              | (refine wpQuiet_load_later rfl 25 _ rfl w.heap.size rfl (hc h) 25 _ hBh10.out Tryd.underlying25 rfl Hs1.out ?_; simp only [Act.put, List.setIfInBounds_toArray, List.set_cons_succ, List.set_cons_zero])
              | (refine wpQuiet_buildV rfl 25 rfl (hv zero32) Tryd.zeroHash ?_; simp only [Act.put, List.setIfInBounds_toArray, List.set_cons_succ, List.set_cons_zero])
              | go_big_quiet_step ((first | (go_at_call 22; with_reducible exact calls_later (Gr10.out _)))))
            refine wpQuiet_nil ?_
            rintro _ ⟨q11, rfl⟩
            have hb11 := lat_below q11
            generalize lat q11 = w11 at *
            go_wp2
            go_ret
            exact ⟨rfl, bth (bth HB9h.out hb10) hb11⟩
end Go.Proofs.YtdllaenbkfajdaaDoor
