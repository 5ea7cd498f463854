/- speculumref06.come (printed by wip/comegen.py out of XPathCome.body) -/
import Derived.Test.YtdllaenbkfajdaaDoorPathProg
import Derived.Maps.RangeWalk
set_option maxRecDepth 100000
namespace Go.Proofs.YtdllaenbkfajdaaDoor
open Go.RowKit Go.Spec
def RComeAt (f : Nat) : Prop := ∀ (x : List UInt8) (i n : Nat) (v : Value) (p : List (List UInt8)) (w : World), 1 ≤ n → n ≤ f → n ≤ 1000000 → i < n → x.length = 32 → p.length ≤ 1000000 → SlAt w 32 v (hcs p) →
    Calls Tryd.prog 48 #[hv x, .int .i64 (i : Int), .int .i64 (n : Int), v] w fun e w' => e = .returned (.tuple #[hv (comeF f x i n p).1, .bool (comeF f x i n p).2]) ∧ Below w.heap.size w w'
theorem comeF_len : ∀ (f : Nat) (x : List UInt8) (i n : Nat) (p : List (List UInt8)), x.length = 32 → (comeF f x i n p).1.length = 32
  | 0, _, _, _, _, h => h
  | f + 1, x, i, n, p, h => by
    rw [comeF]
    split
    · exact h
    · split
      · exact h
      · split <;> exact nodeL_len _ _
set_option maxHeartbeats 2000000 in
theorem rcome_short (f : Nat) (x : List UInt8) (i n : Nat) (v : Value) (p : List (List UInt8)) (w : World) (h1 : 1 ≤ n) (hx : x.length = 32) (hpl : p.length ≤ 1000000) (hS : SlAt w 32 v (hcs p)) (hs : n = 1 ∨ p = []) :
    Calls Tryd.prog 48 #[hv x, .int .i64 (i : Int), .int .i64 (n : Int), v] w fun e w' => e = .returned (.tuple #[hv (comeF (f + 1) x i n p).1, .bool (comeF (f + 1) x i n p).2]) ∧ Below w.heap.size w w' := by
  obtain ⟨a, cap, rfl, hcap⟩ := hS.formH
  have HB : Below w.heap.size w ((w.alloc (.cells (hc x) 25)).alloc (.cells (hc zero32) 25)) := ((Below.refl _ w).alloc (Nat.le_refl _) _).alloc (by simp) _
  have hX : Blk ((w.alloc (.cells (hc x) 25)).alloc (.cells (hc zero32) 25)) w.heap.size (hc x) 25 := (Blk.new _ _ _).alloc _
  have hZ : Blk ((w.alloc (.cells (hc x) 25)).alloc (.cells (hc zero32) 25)) (w.heap.size + 1) (hc zero32) 25 := Blk.new' _ _ _ (by simp)
  have Hs := hid (show (Tryd.prog.info? 25).map (·.size) = some (hc x).size by rw [hc_size, hx]; exact Tryd.sizeHash)
  have Hz := hid (show (hc x).size = (hc zero32).size by rw [hc_size, hx]; rfl)
  clear hS hx
  by_cases hn : n = 1
  · have hc : comeF (f + 1) x i n p = (x, p.isEmpty) := by rw [comeF, if_pos hn]
    rw [hc]
    have d0 : ((n : Int) == 1) = true := by rw [hn]; rfl
    have hpe : ((p.length : Int) == 0) = p.isEmpty := by cases p <;> simp; omega
    clear hs hn hc h1
    generalize p.isEmpty = b at *
    go_enter Tryd.func48, Tryd.ntmps48
    go_wp2_with (first
      | ((with_reducible show wpList _ _ _ ({ dst := _, op := Op.load 25 _, type := _, pos := _, after := _, guard := _ } :: _) _ _); refine wpList_load_blk rfl 25 _ rfl w.heap.size rfl _ (Go.Spec.hc x) _ hX Tryd.underlying25 rfl Hs.out ?_)
      | ((with_reducible show wpList _ _ _ ({ dst := _, op := Op.store _ _ _, type := _, pos := _, after := _, guard := _ } :: _) _ _); refine wpList_store_blk rfl 25 _ _ rfl (w.heap.size + 1) rfl (Go.Spec.hc x) rfl _ _ hZ Hz.out Hs.out (hc_row_one _) ?_))
    refine bodyPost_ret (results_cell2 rfl _ (w.heap.size + 1) 25 _ (0, 0) _ rfl (hZ.setRow) Tryd.underlying25 rfl Hs.out) rfl ⟨by simp [hpe], ?_⟩
    exact HB.setRow (by omega) _
  · obtain rfl : p = [] := by
      rcases hs with h | h
      · exact absurd h hn
      · exact h
    have hc : comeF (f + 1) x i n [] = (x, false) := by rw [comeF, if_neg hn]; rfl
    rw [hc]
    have d0 : ((n : Int) == 1) = false := beq_eq_false_iff_ne.mpr (by omega)
    clear hs hn hc h1
    go_enter Tryd.func48, Tryd.ntmps48
    go_wp2_with (first
      | ((with_reducible show wpList _ _ _ ({ dst := _, op := Op.load 25 _, type := _, pos := _, after := _, guard := _ } :: _) _ _); refine wpList_load_blk rfl 25 _ rfl w.heap.size rfl _ (Go.Spec.hc x) _ hX Tryd.underlying25 rfl Hs.out ?_)
      | ((with_reducible show wpList _ _ _ ({ dst := _, op := Op.store _ _ _, type := _, pos := _, after := _, guard := _ } :: _) _ _); refine wpList_store_blk rfl 25 _ _ rfl (w.heap.size + 1) rfl (Go.Spec.hc x) rfl _ _ hZ Hz.out Hs.out (hc_row_one _) ?_))
    refine bodyPost_ret (results_cell2 rfl _ (w.heap.size + 1) 25 _ (0, 0) _ rfl (hZ.setRow) Tryd.underlying25 rfl Hs.out) rfl ⟨rfl, ?_⟩
    exact HB.setRow (by omega) _
set_option maxHeartbeats 4000000 in
theorem rcome_many (f : Nat) (ih : RComeAt f) (x : List UInt8) (i n : Nat) (v : Value) (q : List (List UInt8)) (h : List UInt8) (w : World) (h2 : 2 ≤ n) (hf : n ≤ f + 1) (hn : n ≤ 1000000) (hi : i < n) (hx : x.length = 32) (hpl : (q ++ [h]).length ≤ 1000000) (hS : SlAt w 32 v (hcs (q ++ [h]))) :
    Calls Tryd.prog 48 #[hv x, .int .i64 (i : Int), .int .i64 (n : Int), v] w fun e w' => e = .returned (.tuple #[hv (comeF (f + 1) x i n (q ++ [h])).1, .bool (comeF (f + 1) x i n (q ++ [h])).2]) ∧ Below w.heap.size w w' := by
  obtain ⟨a, cap, rfl, hcap⟩ := hS.formH
  obtain ⟨b, o, rfl, hblt⟩ := hS.addr (by rw [hcs_length]; simp)
  have HB : Below w.heap.size w ((w.alloc (.cells (hc x) 25)).alloc (.cells (hc zero32) 25)) := ((Below.refl _ w).alloc (Nat.le_refl _) _).alloc (by simp) _
  have hX : Blk ((w.alloc (.cells (hc x) 25)).alloc (.cells (hc zero32) 25)) w.heap.size (hc x) 25 := (Blk.new _ _ _).alloc _
  have hZ : Blk ((w.alloc (.cells (hc x) 25)).alloc (.cells (hc zero32) 25)) (w.heap.size + 1) (hc zero32) 25 := Blk.new' _ _ _ (by simp)
  have Hs := hid (show (Tryd.prog.info? 25).map (·.size) = some (hc x).size by rw [hc_size, hx]; exact Tryd.sizeHash)
  have Hh := hid (hS.len32 h (by simp))
  have Hsh := hid (show (Tryd.prog.info? 25).map (·.size) = some h.length by rw [Hh.out]; exact Tryd.sizeHash)
  have HX := hid hx
  obtain ⟨s1, s2⟩ := splitN_in n h2
  have Hsp := hid (fun w0 => rsplit_big n w0 h2 (Nat.le_trans hn (by decide)))
  have hcm : comeF (f + 1) x i n (q ++ [h]) = if i < splitN n then (nodeL (comeF f x i (splitN n) q).1 h, (comeF f x i (splitN n) q).2) else (nodeL h (comeF f x (i - splitN n) (n - splitN n) q).1, (comeF f x (i - splitN n) (n - splitN n) q).2) := by
    rw [comeF, if_neg (by omega)]
    simp only [List.getLast?_concat, List.dropLast_concat]
  have Hcm := hid hcm
  have d0 : ((n : Int) == 1) = false := beq_eq_false_iff_ne.mpr (by omega)
  have hl : (q ++ [h]).length = q.length + 1 := by simp
  have hqc : q.length ≤ 1000000 := by rw [hl] at hpl; omega
  have hqc1 : q.length + 1 ≤ cap := by rw [hl] at hcap; exact hcap
  have d1 : ((q.length : Int) + 1 == 0) = false := beq_eq_false_iff_ne.mpr (by omega)
  have hT := hS.takeS q.length (by rw [hcs_length]; omega)
  rw [hcs_take, List.take_left' rfl] at hT
  have hcell0 : ∀ wx : World, Below w.heap.size w wx → ∀ j u, (h.map bcell)[j]? = some u → wx.cell? ((⟨b, o + q.length * 32, none⟩ : Addr).add j) = some u := fun wx hwx => by
    have h0 := hS.below hwx (Nat.le_refl _)
    obtain ⟨b', o', e1, _, _, h3⟩ := h0.at (i := q.length) (cs := h.map bcell) (by unfold hcs; simp)
    injection e1 with e1
    injection e1 with e2 e3
    subst e2; subst e3
    exact h3
  rw [hl] at *
  generalize hw0 : ((w.alloc (.cells (hc x) 25)).alloc (.cells (hc zero32) 25)) = w0 at *
  have Hw0 := hid hw0
  have Hcell := hid (fun wx (hwx : Below w0.heap.size w0 wx) => hcell0 wx (bth HB hwx))
  have HBx := hid HB; have HXx := hid hX; have HZx := hid hZ
  have HT := hid (hT.below HB (Nat.le_refl _))
  clear hcell0 hS hT hcm hx HB hX hZ hw0 hl hpl
  generalize splitN n = k at *
  go_enter Tryd.func48, Tryd.ntmps48
  go_upto_region 1 with fail
  show Code.wp _ _ _ _ ((w.alloc (.cells (hc x) 25)).alloc (.cells (hc zero32) 25))
  rw [Hw0.out]
  go_upto_region 5 with fail
  go_cut [10, 11] (fun s10 s11 wx => s10 = .int .i64 (k : Int) ∧ s11 = .pointer (some ⟨w0.heap.size, 0, none⟩) ∧ Blk wx w0.heap.size (hc h) 25 ∧ Below w0.heap.size w0 wx)
  case first =>
    refine wp_region_anyw (by kernel_rfl) ?_
    intro w4 he4 hb4
    have hz4 : w4.heap.size = w0.heap.size := by rw [he4]
    have Hend := hid (show (Value.pointer (some ⟨w4.heap.size, 0, none⟩)) = .pointer (some ⟨w0.heap.size, 0, none⟩) ∧ Blk (w4.alloc (.cells (hc h) 25)) w0.heap.size (hc h) 25 ∧ Below w0.heap.size w0 (w4.alloc (.cells (hc h) 25)) from
      ⟨by rw [hz4], by rw [← hz4]; exact Blk.new _ _ _, hb4.alloc hb4.size _⟩)
    clear hz4 he4
    replace Hcell := hid (fun wx (hwx : Below w4.heap.size w4 wx) => Hcell.out wx (bth hb4 hwx))
    have ql : (q.length : Int) + 1 - 1 = (q.length : Int) := by omega
    show wpAny _ _ _ _ 11 (Array.replicate 11 false) _ _
    refine wpAny_take (i := 0) (v := .int .i64 (n : Int)) rfl (by kernel_rfl) (by kernel_rfl) (by kernel_rfl) (fun _ _ _ h => h) (Or.inl ⟨by rfl, ?_⟩) ?_
    · intro w
      go_simp
      try exact IntWalk.i64_in _ (by omega)
      try omega
    (try dsimp only [List.getElem_toArray, List.getElem_cons_succ, List.getElem_cons_zero]); (try go_frame)
    refine wpAny_take (i := 2) (v := .slice (some ⟨b, o, none⟩) (q.length + 1) cap) rfl (by kernel_rfl) (by kernel_rfl) (by kernel_rfl) (fun _ _ _ h => h) (Or.inl ⟨by rfl, ?_⟩) ?_
    · intro w
      go_simp
      try exact IntWalk.i64_in _ (by omega)
      try omega
    (try dsimp only [List.getElem_toArray, List.getElem_cons_succ, List.getElem_cons_zero]); (try go_frame)
    refine wpAny_take (i := 3) (v := .slice (some ⟨b, o, none⟩) (q.length + 1) cap) rfl (by kernel_rfl) (by kernel_rfl) (by kernel_rfl) (fun _ _ _ h => h) (Or.inl ⟨by rfl, ?_⟩) ?_
    · intro w
      go_simp
      try exact IntWalk.i64_in _ (by omega)
      try omega
    (try dsimp only [List.getElem_toArray, List.getElem_cons_succ, List.getElem_cons_zero]); (try go_frame)
    refine wpAny_take (i := 4) (v := .int .i64 ((q.length : Int) + 1)) rfl (by kernel_rfl) (by kernel_rfl) (by kernel_rfl) (fun _ _ _ h => h) (Or.inl ⟨by rfl, ?_⟩) ?_
    · intro w
      go_simp
      try exact IntWalk.i64_in _ (by omega)
      try omega
    (try dsimp only [List.getElem_toArray, List.getElem_cons_succ, List.getElem_cons_zero]); (try go_frame)
    refine wpAny_take (i := 5) (v := .int .i64 (q.length : Int)) rfl (by kernel_rfl) (by kernel_rfl) (by kernel_rfl) (fun _ _ _ h => h) (Or.inl ⟨by rfl, ?_⟩) ?_
    · intro w
      go_simp
      try exact IntWalk.i64_in _ (by omega)
      try omega
    (try dsimp only [List.getElem_toArray, List.getElem_cons_succ, List.getElem_cons_zero]); (try go_frame)
    refine wpAny_take (i := 6) (v := .pointer (some ⟨b, o + q.length * 32, none⟩)) rfl (by kernel_rfl) (by kernel_rfl) (by kernel_rfl) (fun _ _ _ h => h) (Or.inl ⟨by rfl, ?_⟩) ?_
    · intro w
      go_simp
      try exact IntWalk.i64_in _ (by omega)
      try omega
    (try dsimp only [List.getElem_toArray, List.getElem_cons_succ, List.getElem_cons_zero]); (try go_frame)
    refine wpAny_all (rs := [1, 7, 8]) (by kernel_rfl) (by simp) ?_
    intro z hz
    rcases (show z = 1 ∨ z = 7 ∨ z = 8 by simpa using hz) with rfl | rfl | rfl
    ·
      refine wpOp_list rfl ?_
      (try dsimp only [List.getElem_toArray, List.getElem_cons_succ, List.getElem_cons_zero]); (try go_frame)
      go_wp2_with (go_at_call 21; refine (Hsp.out _).mono ?_; rintro e w9 ⟨rfl, rfl⟩)
      refine wpAny_all (rs := [7, 8]) (by kernel_rfl) (by simp) ?_
      intro z hz
      rcases (show z = 7 ∨ z = 8 by simpa using hz) with rfl | rfl
      ·
        refine wpOp_list rfl ?_
        (try dsimp only [List.getElem_toArray, List.getElem_cons_succ, List.getElem_cons_zero]); (try go_frame)
        refine wpList_load_hc rfl 25 _ rfl ⟨b, o + q.length * 32, none⟩ rfl h _ (Hcell.out _ (Below.refl _ _)) Tryd.underlying25 rfl Hsh.out ?_
        refine wpList_nil ?_
        (try dsimp only [List.getElem_toArray, List.getElem_cons_succ, List.getElem_cons_zero]); (try go_frame)
        refine wpAny_forced (i := 8) (by kernel_rfl) rfl ?_
        (try dsimp only [List.getElem_toArray, List.getElem_cons_succ, List.getElem_cons_zero]); (try go_frame)
        go_wp2_with fail
        refine wpAny_take (i := 9) (v := .int .i64 (k : Int)) rfl (by kernel_rfl) (by kernel_rfl) (by kernel_rfl) (fun _ _ _ h => h) (Or.inl ⟨by rfl, ?_⟩) ?_
        · intro w
          go_simp
          try exact IntWalk.i64_in _ (by omega)
          try omega
        (try dsimp only [List.getElem_toArray, List.getElem_cons_succ, List.getElem_cons_zero]); (try go_frame)
        refine wpAny_forced (i := 10) (by kernel_rfl) rfl ?_
        (try dsimp only [List.getElem_toArray, List.getElem_cons_succ, List.getElem_cons_zero]); (try go_frame)
        refine wpList_store_new rfl 25 _ _ rfl rfl h rfl (hc zero32) 25 (by rw [Hh.out]; rfl) Hsh.out ?_
        refine wpList_nil ?_
        (try dsimp only [List.getElem_toArray, List.getElem_cons_succ, List.getElem_cons_zero]); (try go_frame)
        refine wpAny_done (by kernel_rfl) ?_ _
        go_wp2_with fail
        go_meet
        exact ⟨rfl, Hend.out⟩
      ·
        refine wpOp_list rfl ?_
        (try dsimp only [List.getElem_toArray, List.getElem_cons_succ, List.getElem_cons_zero]); (try go_frame)
        go_wp2_with fail
        refine wpAny_take (i := 9) (v := .int .i64 (k : Int)) rfl (by kernel_rfl) (by kernel_rfl) (by kernel_rfl) (fun _ _ _ h => h) (Or.inl ⟨by rfl, ?_⟩) ?_
        · intro w
          go_simp
          try exact IntWalk.i64_in _ (by omega)
          try omega
        (try dsimp only [List.getElem_toArray, List.getElem_cons_succ, List.getElem_cons_zero]); (try go_frame)
        refine wpAny_forced (i := 7) (by kernel_rfl) rfl ?_
        (try dsimp only [List.getElem_toArray, List.getElem_cons_succ, List.getElem_cons_zero]); (try go_frame)
        refine wpList_load_hc rfl 25 _ rfl ⟨b, o + q.length * 32, none⟩ rfl h _ (Hcell.out _ ((Below.refl _ _).alloc (Nat.le_refl _) _)) Tryd.underlying25 rfl Hsh.out ?_
        refine wpList_nil ?_
        (try dsimp only [List.getElem_toArray, List.getElem_cons_succ, List.getElem_cons_zero]); (try go_frame)
        refine wpAny_forced (i := 10) (by kernel_rfl) rfl ?_
        (try dsimp only [List.getElem_toArray, List.getElem_cons_succ, List.getElem_cons_zero]); (try go_frame)
        refine wpList_store_new rfl 25 _ _ rfl rfl h rfl (hc zero32) 25 (by rw [Hh.out]; rfl) Hsh.out ?_
        refine wpList_nil ?_
        (try dsimp only [List.getElem_toArray, List.getElem_cons_succ, List.getElem_cons_zero]); (try go_frame)
        refine wpAny_done (by kernel_rfl) ?_ _
        go_wp2_with fail
        go_meet
        exact ⟨rfl, Hend.out⟩
    ·
      refine wpOp_list rfl ?_
      (try dsimp only [List.getElem_toArray, List.getElem_cons_succ, List.getElem_cons_zero]); (try go_frame)
      refine wpList_load_hc rfl 25 _ rfl ⟨b, o + q.length * 32, none⟩ rfl h _ (Hcell.out _ (Below.refl _ _)) Tryd.underlying25 rfl Hsh.out ?_
      refine wpList_nil ?_
      (try dsimp only [List.getElem_toArray, List.getElem_cons_succ, List.getElem_cons_zero]); (try go_frame)
      refine wpAny_all (rs := [1, 8]) (by kernel_rfl) (by simp) ?_
      intro z hz
      rcases (show z = 1 ∨ z = 8 by simpa using hz) with rfl | rfl
      ·
        refine wpOp_list rfl ?_
        (try dsimp only [List.getElem_toArray, List.getElem_cons_succ, List.getElem_cons_zero]); (try go_frame)
        go_wp2_with (go_at_call 21; refine (Hsp.out _).mono ?_; rintro e w9 ⟨rfl, rfl⟩)
        refine wpAny_forced (i := 8) (by kernel_rfl) rfl ?_
        (try dsimp only [List.getElem_toArray, List.getElem_cons_succ, List.getElem_cons_zero]); (try go_frame)
        go_wp2_with fail
        refine wpAny_take (i := 9) (v := .int .i64 (k : Int)) rfl (by kernel_rfl) (by kernel_rfl) (by kernel_rfl) (fun _ _ _ h => h) (Or.inl ⟨by rfl, ?_⟩) ?_
        · intro w
          go_simp
          try exact IntWalk.i64_in _ (by omega)
          try omega
        (try dsimp only [List.getElem_toArray, List.getElem_cons_succ, List.getElem_cons_zero]); (try go_frame)
        refine wpAny_forced (i := 10) (by kernel_rfl) rfl ?_
        (try dsimp only [List.getElem_toArray, List.getElem_cons_succ, List.getElem_cons_zero]); (try go_frame)
        refine wpList_store_new rfl 25 _ _ rfl rfl h rfl (hc zero32) 25 (by rw [Hh.out]; rfl) Hsh.out ?_
        refine wpList_nil ?_
        (try dsimp only [List.getElem_toArray, List.getElem_cons_succ, List.getElem_cons_zero]); (try go_frame)
        refine wpAny_done (by kernel_rfl) ?_ _
        go_wp2_with fail
        go_meet
        exact ⟨rfl, Hend.out⟩
      ·
        refine wpOp_list rfl ?_
        (try dsimp only [List.getElem_toArray, List.getElem_cons_succ, List.getElem_cons_zero]); (try go_frame)
        go_wp2_with fail
        refine wpAny_forced (i := 1) (by kernel_rfl) rfl ?_
        (try dsimp only [List.getElem_toArray, List.getElem_cons_succ, List.getElem_cons_zero]); (try go_frame)
        go_wp2_with (go_at_call 21; refine (Hsp.out _).mono ?_; rintro e w9 ⟨rfl, rfl⟩)
        refine wpAny_take (i := 9) (v := .int .i64 (k : Int)) rfl (by kernel_rfl) (by kernel_rfl) (by kernel_rfl) (fun _ _ _ h => h) (Or.inl ⟨by rfl, ?_⟩) ?_
        · intro w
          go_simp
          try exact IntWalk.i64_in _ (by omega)
          try omega
        (try dsimp only [List.getElem_toArray, List.getElem_cons_succ, List.getElem_cons_zero]); (try go_frame)
        refine wpAny_forced (i := 10) (by kernel_rfl) rfl ?_
        (try dsimp only [List.getElem_toArray, List.getElem_cons_succ, List.getElem_cons_zero]); (try go_frame)
        refine wpList_store_new rfl 25 _ _ rfl rfl h rfl (hc zero32) 25 (by rw [Hh.out]; rfl) Hsh.out ?_
        refine wpList_nil ?_
        (try dsimp only [List.getElem_toArray, List.getElem_cons_succ, List.getElem_cons_zero]); (try go_frame)
        refine wpAny_done (by kernel_rfl) ?_ _
        go_wp2_with fail
        go_meet
        exact ⟨rfl, Hend.out⟩
    ·
      refine wpOp_list rfl ?_
      (try dsimp only [List.getElem_toArray, List.getElem_cons_succ, List.getElem_cons_zero]); (try go_frame)
      go_wp2_with fail
      refine wpAny_all (rs := [1, 7]) (by kernel_rfl) (by simp) ?_
      intro z hz
      rcases (show z = 1 ∨ z = 7 by simpa using hz) with rfl | rfl
      ·
        refine wpOp_list rfl ?_
        (try dsimp only [List.getElem_toArray, List.getElem_cons_succ, List.getElem_cons_zero]); (try go_frame)
        go_wp2_with (go_at_call 21; refine (Hsp.out _).mono ?_; rintro e w9 ⟨rfl, rfl⟩)
        refine wpAny_take (i := 9) (v := .int .i64 (k : Int)) rfl (by kernel_rfl) (by kernel_rfl) (by kernel_rfl) (fun _ _ _ h => h) (Or.inl ⟨by rfl, ?_⟩) ?_
        · intro w
          go_simp
          try exact IntWalk.i64_in _ (by omega)
          try omega
        (try dsimp only [List.getElem_toArray, List.getElem_cons_succ, List.getElem_cons_zero]); (try go_frame)
        refine wpAny_forced (i := 7) (by kernel_rfl) rfl ?_
        (try dsimp only [List.getElem_toArray, List.getElem_cons_succ, List.getElem_cons_zero]); (try go_frame)
        refine wpList_load_hc rfl 25 _ rfl ⟨b, o + q.length * 32, none⟩ rfl h _ (Hcell.out _ ((Below.refl _ _).alloc (Nat.le_refl _) _)) Tryd.underlying25 rfl Hsh.out ?_
        refine wpList_nil ?_
        (try dsimp only [List.getElem_toArray, List.getElem_cons_succ, List.getElem_cons_zero]); (try go_frame)
        refine wpAny_forced (i := 10) (by kernel_rfl) rfl ?_
        (try dsimp only [List.getElem_toArray, List.getElem_cons_succ, List.getElem_cons_zero]); (try go_frame)
        refine wpList_store_new rfl 25 _ _ rfl rfl h rfl (hc zero32) 25 (by rw [Hh.out]; rfl) Hsh.out ?_
        refine wpList_nil ?_
        (try dsimp only [List.getElem_toArray, List.getElem_cons_succ, List.getElem_cons_zero]); (try go_frame)
        refine wpAny_done (by kernel_rfl) ?_ _
        go_wp2_with fail
        go_meet
        exact ⟨rfl, Hend.out⟩
      ·
        refine wpOp_list rfl ?_
        (try dsimp only [List.getElem_toArray, List.getElem_cons_succ, List.getElem_cons_zero]); (try go_frame)
        refine wpList_load_hc rfl 25 _ rfl ⟨b, o + q.length * 32, none⟩ rfl h _ (Hcell.out _ ((Below.refl _ _).alloc (Nat.le_refl _) _)) Tryd.underlying25 rfl Hsh.out ?_
        refine wpList_nil ?_
        (try dsimp only [List.getElem_toArray, List.getElem_cons_succ, List.getElem_cons_zero]); (try go_frame)
        refine wpAny_forced (i := 1) (by kernel_rfl) rfl ?_
        (try dsimp only [List.getElem_toArray, List.getElem_cons_succ, List.getElem_cons_zero]); (try go_frame)
        go_wp2_with (go_at_call 21; refine (Hsp.out _).mono ?_; rintro e w9 ⟨rfl, rfl⟩)
        refine wpAny_take (i := 9) (v := .int .i64 (k : Int)) rfl (by kernel_rfl) (by kernel_rfl) (by kernel_rfl) (fun _ _ _ h => h) (Or.inl ⟨by rfl, ?_⟩) ?_
        · intro w
          go_simp
          try exact IntWalk.i64_in _ (by omega)
          try omega
        (try dsimp only [List.getElem_toArray, List.getElem_cons_succ, List.getElem_cons_zero]); (try go_frame)
        refine wpAny_forced (i := 10) (by kernel_rfl) rfl ?_
        (try dsimp only [List.getElem_toArray, List.getElem_cons_succ, List.getElem_cons_zero]); (try go_frame)
        refine wpList_store_new rfl 25 _ _ rfl rfl h rfl (hc zero32) 25 (by rw [Hh.out]; rfl) Hsh.out ?_
        refine wpList_nil ?_
        (try dsimp only [List.getElem_toArray, List.getElem_cons_succ, List.getElem_cons_zero]); (try go_frame)
        refine wpAny_done (by kernel_rfl) ?_ _
        go_wp2_with fail
        go_meet
        exact ⟨rfl, Hend.out⟩
  case rest =>
    obtain ⟨rfl, rfl, hBh, hb⟩ := hcut
    have HBc := hid (bth HBx.out hb)
    have HXc := hid (HXx.out.later hb)
    have HZc := hid (HZx.out.later hb)
    have HTc := HT.out.below hb (Nat.le_refl _)
    have HBh := hid hBh
    clear hBh hb HBx HXx HZx HT Hcell Hw0
    generalize w0.heap.size = g at *
    have ql : (q.length : Int) + 1 - 1 = (q.length : Int) := by omega
    have hqcap : (q.length : Int) ≤ (cap : Int) := by omega
    by_cases hik : i < k
    · have hdk : decide (i < k) = true := by simpa using hik
      rw [if_pos hik] at Hcm
      have I := hid (ih x i k (.slice (some ⟨b, o, none⟩) q.length cap) q wc s1 (by omega) (by omega) hik HX.out hqc HTc)
      have hYl := comeF_len f x i k q HX.out
      have hNl := nodeL_len (comeF f x i k q).1 h
      generalize comeF f x i k q = YB at *
      obtain ⟨Y, bb⟩ := YB
      have HYl := hid hYl
      have Hsy := hid (show (Tryd.prog.info? 25).map (·.size) = some Y.length by rw [show Y.length = 32 from hYl]; exact Tryd.sizeHash)
      have Nd := hid (fun w0 => rnode_any Y h w0 HYl.out Hh.out)
      dsimp only at hNl hYl Hcm
      have HsN := hid (show (Tryd.prog.info? 25).map (·.size) = some (hc (nodeL Y h)).size by rw [hc_size, hNl]; exact Tryd.sizeHash)
      have HzN := hid (show (hc (nodeL Y h)).size = (hc zero32).size by rw [hc_size, hNl]; rfl)
      clear hYl hNl
      generalize nodeL Y h = N at *
      clear hik
      go_upto_region 9 with (first
        | ((with_reducible show wpList _ _ _ ({ dst := _, op := Op.load 25 _, type := _, pos := _, after := _, guard := _ } :: _) _ _); refine wpList_load_blk rfl 25 _ rfl w.heap.size rfl _ (hc x) _ HXc.out Tryd.underlying25 rfl Hs.out ?_)
        | (go_at_call 48; refine I.out.mono ?_; rintro e w5 ⟨rfl, hb5⟩)
        | ((with_reducible show wpList _ _ _ ({ dst := _, op := Op.store _ _ _, type := _, pos := _, after := _, guard := _ } :: _) _ (World.alloc w5 _)); refine wpList_store_new rfl 25 _ _ rfl rfl Y rfl (hc zero32) 25 (by rw [show Y.length = 32 from HYl.out]; rfl) Hsy.out ?_))
      go_wp2_with (first
        | ((with_reducible show wpList _ _ _ ({ dst := _, op := Op.load 25 _, type := _, pos := _, after := _, guard := _ } :: _) _ _); first
          | (refine wpList_load_new rfl 25 _ rfl rfl Y 25 _ Tryd.underlying25 rfl Hsy.out ?_)
          | (refine wpList_load_blk rfl 25 _ rfl g rfl _ (hc h) _ ((HBh.out.later hb5).alloc _) Tryd.underlying25 rfl (by rw [hc_size]; exact Hsh.out) ?_))
        | (go_at_call 20; refine (Nd.out _).mono ?_; rintro e w6 ⟨rfl, hb6⟩)
        | ((with_reducible show wpList _ _ _ ({ dst := _, op := Op.store _ _ _, type := _, pos := _, after := _, guard := _ } :: _) _ _); refine wpList_store_blk rfl 25 _ _ rfl (w.heap.size + 1) rfl (hc N) rfl _ _ (((HZc.out.later hb5).alloc _).later hb6) HzN.out HsN.out (hc_row_one _) ?_))
      refine bodyPost_ret (results_cell2 rfl _ (w.heap.size + 1) 25 _ (0, 0) _ rfl ((((HZc.out.later hb5).alloc _).later hb6).setRow) Tryd.underlying25 rfl HsN.out) rfl ⟨by rw [Hcm.out]; rfl, ?_⟩
      exact (bth ((bth HBc.out hb5).alloc (bth HBc.out hb5).size _) hb6).setRow (by omega) _
    · have hdk : decide (i < k) = false := by simpa using hik
      rw [if_neg hik] at Hcm
      obtain ⟨i2, hi2⟩ : ∃ i2, i - k = i2 := ⟨_, rfl⟩
      obtain ⟨n2, hn2⟩ : ∃ n2, n - k = n2 := ⟨_, rfl⟩
      have ei : (i : Int) - (k : Int) = (i2 : Int) := by omega
      have en : (n : Int) - (k : Int) = (n2 : Int) := by omega
      rw [hi2, hn2] at Hcm
      have I := hid (ih x i2 n2 (.slice (some ⟨b, o, none⟩) q.length cap) q wc (by omega) (by omega) (by omega) (by omega) HX.out hqc HTc)
      have hYl := comeF_len f x i2 n2 q HX.out
      have hNl := nodeL_len h (comeF f x i2 n2 q).1
      generalize comeF f x i2 n2 q = YB at *
      obtain ⟨Y, bb⟩ := YB
      have HYl := hid hYl
      have Hsy := hid (show (Tryd.prog.info? 25).map (·.size) = some Y.length by rw [show Y.length = 32 from hYl]; exact Tryd.sizeHash)
      have Nd := hid (fun w0 => rnode_any h Y w0 Hh.out HYl.out)
      dsimp only at hNl hYl Hcm
      have HsN := hid (show (Tryd.prog.info? 25).map (·.size) = some (hc (nodeL h Y)).size by rw [hc_size, hNl]; exact Tryd.sizeHash)
      have HzN := hid (show (hc (nodeL h Y)).size = (hc zero32).size by rw [hc_size, hNl]; rfl)
      clear hYl hNl
      generalize nodeL h Y = N at *
      clear hik
      go_upto_region 11 with (first
        | ((with_reducible show wpList _ _ _ ({ dst := _, op := Op.load 25 _, type := _, pos := _, after := _, guard := _ } :: _) _ _); refine wpList_load_blk rfl 25 _ rfl w.heap.size rfl _ (hc x) _ HXc.out Tryd.underlying25 rfl Hs.out ?_)
        | (go_at_call 48; refine I.out.mono ?_; rintro e w5 ⟨rfl, hb5⟩)
        | ((with_reducible show wpList _ _ _ ({ dst := _, op := Op.store _ _ _, type := _, pos := _, after := _, guard := _ } :: _) _ (World.alloc w5 _)); refine wpList_store_new rfl 25 _ _ rfl rfl Y rfl (hc zero32) 25 (by rw [show Y.length = 32 from HYl.out]; rfl) Hsy.out ?_))
      go_wp2_with (first
        | ((with_reducible show wpList _ _ _ ({ dst := _, op := Op.load 25 _, type := _, pos := _, after := _, guard := _ } :: _) _ _); first
          | (refine wpList_load_new rfl 25 _ rfl rfl Y 25 _ Tryd.underlying25 rfl Hsy.out ?_)
          | (refine wpList_load_blk rfl 25 _ rfl g rfl _ (hc h) _ ((HBh.out.later hb5).alloc _) Tryd.underlying25 rfl (by rw [hc_size]; exact Hsh.out) ?_))
        | (go_at_call 20; refine (Nd.out _).mono ?_; rintro e w6 ⟨rfl, hb6⟩)
        | ((with_reducible show wpList _ _ _ ({ dst := _, op := Op.store _ _ _, type := _, pos := _, after := _, guard := _ } :: _) _ _); refine wpList_store_blk rfl 25 _ _ rfl (w.heap.size + 1) rfl (hc N) rfl _ _ (((HZc.out.later hb5).alloc _).later hb6) HzN.out HsN.out (hc_row_one _) ?_))
      refine bodyPost_ret (results_cell2 rfl _ (w.heap.size + 1) 25 _ (0, 0) _ rfl ((((HZc.out.later hb5).alloc _).later hb6).setRow) Tryd.underlying25 rfl HsN.out) rfl ⟨by rw [Hcm.out]; rfl, ?_⟩
      exact (bth ((bth HBc.out hb5).alloc (bth HBc.out hb5).size _) hb6).setRow (by omega) _
theorem rcome_at : ∀ f, RComeAt f
  | 0 => fun x i n v p w h1 h2 _ _ _ _ _ => by omega
  | f + 1 => fun x i n v p w h1 h2 hn hi hx hpl hS => by
    by_cases hs : n = 1 ∨ p = []
    · exact rcome_short f x i n v p w h1 hx hpl hS hs
    · rcases p.eq_nil_or_concat with rfl | ⟨q, h, rfl⟩
      · exact absurd (Or.inr rfl) hs
      · rw [List.concat_eq_append] at *
        exact rcome_many f (rcome_at f) x i n v q h w (by omega) h2 hn hi hx hpl hS
end Go.Proofs.YtdllaenbkfajdaaDoor
