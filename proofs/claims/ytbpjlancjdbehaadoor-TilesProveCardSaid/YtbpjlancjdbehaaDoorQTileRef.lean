/- speculumref14: Node, Root, Path, Proof of leaves -/
import Derived.Test.YtbpjlancjdbehaaDoorQRProof
import Derived.Test.YtbpjlancjdbehaaDoorQSlices
import Derived.Test.YtbpjlancjdbehaaDoorQTilePath

set_option maxRecDepth 100000
namespace Go.Proofs.YtbpjlancjdbehaaDoor
open Go.RowKit Go.Spec
theorem tileZ_out (l : List (List UInt8)) (a b : Int) (hl : l.length ≤ 4096) (h : a < 0 ∨ 12 < a ∨ b < 0 ∨ 4096 < b) : tileZ l a b = none := by
  unfold tileZ
  by_cases h0 : 0 ≤ a ∧ 0 ≤ b
  · rw [if_pos h0]
    unfold tileN
    rw [if_neg]
    have hp : 0 < 2 ^ a.toNat := Nat.pow_pos (by omega)
    have h2 : b.toNat + 1 ≤ (b.toNat + 1) * 2 ^ a.toNat := Nat.le_mul_of_pos_right _ hp
    have h1 : 2 ^ a.toNat ≤ (b.toNat + 1) * 2 ^ a.toNat := Nat.le_mul_of_pos_left _ (by omega)
    rcases h with h | h | h | h
    · omega
    · have h5 : 2 ^ 13 ≤ 2 ^ a.toNat := Nat.pow_le_pow_right (by omega) (by omega)
      have h4 : (2 : Nat) ^ 13 = 8192 := rfl
      omega
    · omega
    · omega
  · rw [if_neg h0]
theorem node_ways {a b : Int} (h : a < 0 ∨ 12 < a ∨ b < 0 ∨ 4096 < b) : (decide (a < 0) = true) ∨ (decide (a < 0) = false ∧ decide (12 < a) = true) ∨ (decide (a < 0) = false ∧ decide (12 < a) = false ∧ decide (b < 0) = true) ∨ (decide (a < 0) = false ∧ decide (12 < a) = false ∧ decide (b < 0) = false ∧ decide (4096 < b) = true) := by
  simp only [decide_eq_true_eq, decide_eq_false_iff_not]
  omega
theorem sizeHash3 : (Tryd.prog.info? 29).map (·.size) = some (hc zero32).size := by kernel_rfl
set_option maxHeartbeats 2000000 in
theorem rtnode_out (v : Value) (a b : Int) (w : World) (h : a < 0 ∨ 12 < a ∨ b < 0 ∨ 4096 < b) :
    Calls Tryd.prog 13 #[v, .int .i64 a, .int .i64 b] w fun e w' => e = .returned (.tuple #[hv zero32, .bool false]) ∧ Below w.heap.size w w' := by
  have hw1 : Below w.heap.size w (w.alloc (.cells (hc zero32) 29)) := (Below.refl _ w).alloc (Nat.le_refl _) _
  have hZ : Blk (w.alloc (.cells (hc zero32) 29)) w.heap.size (hc zero32) 29 := Blk.new _ _ _
  have hw := node_ways h
  clear h
  rcases hw with d1 | ⟨d1, d2⟩ | ⟨d1, d2, d3⟩ | ⟨d1, d2, d3, d4⟩
  all_goals (
    go_enter Tryd.func13, Tryd.ntmps13
    go_wp2_with (first
      | ((with_reducible show wpList _ _ _ ({ dst := _, op := Op.build _ _, type := _, pos := _, after := _, guard := _ } :: _) _ _); refine wpList_build0 rfl 29 rfl (hv zero32) (Tryd.zeroHash _) ?_)
      | ((with_reducible show wpList _ _ _ ({ dst := _, op := Op.store _ _ _, type := _, pos := _, after := _, guard := _ } :: _) _ _); refine wpList_store_blk rfl 29 _ _ rfl w.heap.size rfl (hc zero32) rfl _ _ hZ rfl sizeHash3 (hc_row_one _) ?_))
    refine bodyPost_ret (results_cell2 rfl _ w.heap.size 29 _ (0, 0) _ rfl (hZ.setRow) Tryd.underlying29 rfl sizeHash3) rfl ⟨rfl, ?_⟩
    exact hw1.setRow (by omega) _)
set_option maxHeartbeats 4000000 in
theorem rtnode_in (v : Value) (hs : List (List UInt8)) (a b : Nat) (w : World) (ha : a ≤ 12) (hb : b ≤ 4096) (hl : hs.length ≤ 4096) (hS : SlAt w 32 v (hcs hs)) :
    Calls Tryd.prog 13 #[v, .int .i64 (a : Int), .int .i64 (b : Int)] w fun e w' => e = .returned (.tuple #[hv ((tileN hs a b).getD zero32), .bool (tileN hs a b).isSome]) ∧ Below w.heap.size w w' := by
  obtain ⟨ad, cap, rfl, hcap⟩ := hS.formH
  have hw1 : Below w.heap.size w (w.alloc (.cells (hc zero32) 29)) := (Below.refl _ w).alloc (Nat.le_refl _) _
  have hZ : Blk (w.alloc (.cells (hc zero32) 29)) w.heap.size (hc zero32) 29 := Blk.new _ _ _
  have HS := hid (hS.below hw1 (Nat.le_refl _))
  have H32 := hid hS.len32
  have d1 : decide ((a : Int) < 0) = false := by simp
  have d2 : decide ((12 : Int) < (a : Int)) = false := by simp; omega
  have d3 : decide ((b : Int) < 0) = false := by simp
  have d4 : decide ((4096 : Int) < (b : Int)) = false := by simp; omega
  obtain ⟨k, hk⟩ : ∃ k, 2 ^ a = k := ⟨_, rfl⟩
  have hk1 : 0 < k := by rw [← hk]; exact Nat.pow_pos (by omega)
  have hk2 : k ≤ 4096 := by
    rw [← hk]
    have h4 : (2 : Nat) ^ 12 = 4096 := rfl
    have := Nat.pow_le_pow_right (show 0 < 2 by omega) ha
    omega
  have ek : wrap64 ((2 : Int) ^ (min a 64)) = (k : Int) := by
    have h1 : min a 64 = a := Nat.min_eq_left (by omega)
    have : ((2 : Int) ^ a) = (k : Int) := by rw [← hk]; push_cast; rfl
    rw [h1, this]; unfold wrap64; omega
  obtain ⟨m, hm⟩ : ∃ m, k * b = m := ⟨_, rfl⟩
  have hmk : m ≤ 4096 * 4096 := by rw [← hm]; exact Nat.mul_le_mul hk2 hb
  have em : (k : Int) * (b : Int) = (m : Int) := by rw [← hm]; rfl
  have et : tileN hs a b = if m + k ≤ hs.length then some (rootL (seg hs m (m + k))) else none := by
    unfold tileN
    rw [hk, Nat.add_mul, Nat.one_mul, Nat.mul_comm b k, hm]
  rw [et]
  obtain ⟨e, he⟩ : ∃ e, m + k = e := ⟨_, rfl⟩
  have ee : (m : Int) + (k : Int) = (e : Int) := by omega
  rw [he]
  have he2 : e ≤ 20000000 := by omega
  have hme : m ≤ e := by omega
  clear hS hk hm et he ha hb
  by_cases h : e ≤ hs.length
  · have d5 : decide (hs.length < e) = false := by simp; omega
    rw [if_pos h]
    obtain ⟨a2, c2, hsl, hS2⟩ := HS.out.midR 22 29 Tryd.underlying22 Tryd.sizeHash (m : Int) (e : Int) m e rfl rfl hme (by rw [hcs_length]; exact h)
    have hS3 : SlAt (w.alloc (.cells (hc zero32) 29)) 32 (.slice a2 (e - m) c2) (hcs (seg hs m e)) := by
      rw [hcs_take, hcs_drop] at hS2
      exact hS2
    have L := rootL_len _ (seg hs m e) (Nat.le_refl _) (seg_32 H32.out _ _)
    have R := hid (rroot_any (seg hs m e) (.slice a2 (e - m) c2) _ (by rw [seg_len _ _ _ h]; omega) hS3)
    generalize rootL (seg hs m e) = S at *
    have Hs := hid (show (Tryd.prog.info? 29).map (·.size) = some (hc S).size by rw [hc_size, L]; exact Tryd.sizeHash)
    have Hz := hid (show (hc S).size = (hc zero32).size by rw [hc_size, L]; rfl)
    have hI : (m : Int) ≤ (e : Int) := by omega
    clear hS2 hS3 L HS h
    go_enter Tryd.func13, Tryd.ntmps13
    go_wp2_with (first
      | (go_at_call 42; refine R.out.mono ?_; rintro e w3 ⟨rfl, hb3⟩)
      | ((with_reducible show wpList _ _ _ ({ dst := _, op := Op.store _ _ _, type := _, pos := _, after := _, guard := _ } :: _) _ _); refine wpList_store_blk rfl 29 _ _ rfl w.heap.size rfl (hc S) rfl _ _ (hZ.later hb3) Hz.out Hs.out (hc_row_one _) ?_))
    refine bodyPost_ret (results_cell2 rfl _ w.heap.size 29 _ (0, 0) _ rfl ((hZ.later hb3).setRow) Tryd.underlying29 rfl Hs.out) rfl ⟨rfl, ?_⟩
    exact (bth hw1 hb3).setRow (by omega) _
  · have d5 : decide (hs.length < e) = true := by simp; omega
    rw [if_neg h]
    clear HS h
    go_enter Tryd.func13, Tryd.ntmps13
    go_wp2_with (first
      | ((with_reducible show wpList _ _ _ ({ dst := _, op := Op.build _ _, type := _, pos := _, after := _, guard := _ } :: _) _ _); refine wpList_build0 rfl 29 rfl (hv zero32) (Tryd.zeroHash _) ?_)
      | ((with_reducible show wpList _ _ _ ({ dst := _, op := Op.store _ _ _, type := _, pos := _, after := _, guard := _ } :: _) _ _); refine wpList_store_blk rfl 29 _ _ rfl w.heap.size rfl (hc zero32) rfl _ _ hZ rfl sizeHash3 (hc_row_one _) ?_))
    refine bodyPost_ret (results_cell2 rfl _ w.heap.size 29 _ (0, 0) _ rfl (hZ.setRow) Tryd.underlying29 rfl sizeHash3) rfl ⟨rfl, ?_⟩
    exact hw1.setRow (by omega) _
theorem rtnode_any (v : Value) (hs : List (List UInt8)) (a b : Int) (w : World) (hl : hs.length ≤ 4096) (hS : SlAt w 32 v (hcs hs)) :
    Calls Tryd.prog 13 #[v, .int .i64 a, .int .i64 b] w fun e w' => e = .returned (.tuple #[hv ((tileZ hs a b).getD zero32), .bool (tileZ hs a b).isSome]) ∧ Below w.heap.size w w' := by
  by_cases h : a < 0 ∨ 12 < a ∨ b < 0 ∨ 4096 < b
  · rw [tileZ_out hs a b hl h]
    exact rtnode_out v a b w h
  · obtain ⟨x, rfl⟩ : ∃ x : Nat, a = x := ⟨a.toNat, by omega⟩
    obtain ⟨y, rfl⟩ : ∃ y : Nat, b = y := ⟨b.toNat, by omega⟩
    rw [tileZ_nat]
    exact rtnode_in v hs x y w (by omega) (by omega) hl hS
set_option maxHeartbeats 2000000 in
theorem rtroot_any (v : Value) (hs : List (List UInt8)) (n : Int) (w : World) (hl : hs.length ≤ 4096) (hS : SlAt w 32 v (hcs hs)) :
    Calls Tryd.prog 15 #[v, .int .i64 n] w fun e w' => e = .returned (.tuple #[hv (trootX hs n), .int .i64 (withE hs n)]) ∧ Below w.heap.size w w' := by
  obtain ⟨ad, cap, rfl, hcap⟩ := hS.formH
  have hw1 : Below w.heap.size w (w.alloc (.cells (hc zero32) 29)) := (Below.refl _ w).alloc (Nat.le_refl _) _
  have hZ : Blk (w.alloc (.cells (hc zero32) 29)) w.heap.size (hc zero32) 29 := Blk.new _ _ _
  have HS := hid (hS.below hw1 (Nat.le_refl _))
  have h32 := trootX_32 hS.len32 n
  by_cases h : 0 ≤ n ∧ n ≤ hs.length
  · obtain ⟨k, rfl⟩ : ∃ k : Nat, n = k := ⟨n.toNat, by omega⟩
    have e1 : trootX hs (k : Int) = rootL (hs.take k) := by unfold trootX; rw [if_pos h]; rfl
    have e2 : withE hs (k : Int) = 0 := by unfold withE; rw [if_pos h]
    rw [e2]
    rw [e1] at h32 ⊢
    have d1 : decide ((k : Int) < 0) = false := by simp
    have d2 : decide (hs.length < k) = false := by simp; omega
    obtain ⟨a2, c2, hsl, hS2⟩ := HS.out.takeR 22 29 Tryd.underlying22 Tryd.sizeHash (k : Int) k rfl (by rw [hcs_length]; omega)
    rw [hcs_take] at hS2
    have R := hid (rroot_any (hs.take k) (.slice a2 k c2) _ (by rw [List.length_take]; omega) hS2)
    generalize rootL (hs.take k) = S at *
    have Hs := hid (show (Tryd.prog.info? 29).map (·.size) = some (hc S).size by rw [hc_size, h32]; exact Tryd.sizeHash)
    have Hz := hid (show (hc S).size = (hc zero32).size by rw [hc_size, h32]; rfl)
    clear hS2 HS h hS e1 e2 h32
    go_enter Tryd.func15, Tryd.ntmps15
    go_wp2_with (first
      | (go_at_call 42; refine R.out.mono ?_; rintro e w3 ⟨rfl, hb3⟩)
      | ((with_reducible show wpList _ _ _ ({ dst := _, op := Op.store _ _ _, type := _, pos := _, after := _, guard := _ } :: _) _ _); refine wpList_store_blk rfl 29 _ _ rfl w.heap.size rfl (hc S) rfl _ _ (hZ.later hb3) Hz.out Hs.out (hc_row_one _) ?_))
    refine bodyPost_ret (results_cell2 rfl _ w.heap.size 29 _ (0, 0) _ rfl ((hZ.later hb3).setRow) Tryd.underlying29 rfl Hs.out) rfl ⟨rfl, ?_⟩
    exact (bth hw1 hb3).setRow (by omega) _
  · have e1 : trootX hs n = zero32 := by unfold trootX; rw [if_neg h]
    have e2 : withE hs n = 82 := by unfold withE; rw [if_neg h]
    rw [e1, e2]
    have hw : (decide (n < 0) = true) ∨ (decide (n < 0) = false ∧ decide ((hs.length : Int) < n) = true) := by
      simp only [decide_eq_true_eq, decide_eq_false_iff_not]; omega
    clear h e1 e2 h32 HS hS
    rcases hw with d1 | ⟨d1, d2⟩
    all_goals (
      go_enter Tryd.func15, Tryd.ntmps15
      go_wp2_with (first
        | ((with_reducible show wpList _ _ _ ({ dst := _, op := Op.build _ _, type := _, pos := _, after := _, guard := _ } :: _) _ _); refine wpList_build0 rfl 29 rfl (hv zero32) (Tryd.zeroHash _) ?_)
        | ((with_reducible show wpList _ _ _ ({ dst := _, op := Op.store _ _ _, type := _, pos := _, after := _, guard := _ } :: _) _ _); refine wpList_store_blk rfl 29 _ _ rfl w.heap.size rfl (hc zero32) rfl _ _ hZ rfl sizeHash3 (hc_row_one _) ?_))
      refine bodyPost_ret (results_cell2 rfl _ w.heap.size 29 _ (0, 0) _ rfl (hZ.setRow) Tryd.underlying29 rfl sizeHash3) rfl ⟨rfl, ?_⟩
      exact hw1.setRow (by omega) _)
theorem three_ways {i n L : Int} {P : Prop} (h : ¬ (0 ≤ n ∧ n ≤ L ∧ 0 ≤ i ∧ P)) : (decide (n < 0) = true) ∨ (decide (n < 0) = false ∧ decide (L < n) = true) ∨ (decide (n < 0) = false ∧ decide (L < n) = false ∧ decide (i < 0) = true) ∨ (decide (n < 0) = false ∧ decide (L < n) = false ∧ decide (i < 0) = false ∧ ¬ P) := by
  simp only [decide_eq_true_eq, decide_eq_false_iff_not]
  by_cases h1 : n < 0
  · exact .inl h1
  · by_cases h2 : L < n
    · exact .inr (.inl ⟨h1, h2⟩)
    · by_cases h3 : i < 0
      · exact .inr (.inr (.inl ⟨h1, h2, h3⟩))
      · exact .inr (.inr (.inr ⟨h1, h2, h3, fun hp => h ⟨by omega, by omega, by omega, hp⟩⟩))
set_option maxHeartbeats 2000000 in
theorem rtpath_any (v : Value) (hs : List (List UInt8)) (i n : Int) (w : World) (hl : hs.length ≤ 4096) (hS : SlAt w 32 v (hcs hs)) :
    Calls Tryd.prog 17 #[v, .int .i64 i, .int .i64 n] w fun e w' => (∃ u, e = .returned (.tuple #[u, .int .i64 (tpathE hs i n)]) ∧ SlAt w' 32 u (hcs (tpathX hs i n))) ∧ Below w.heap.size w w' := by
  obtain ⟨ad, cap, rfl, hcap⟩ := hS.formH
  unfold tpathE tpathX
  by_cases h : tpIn hs i n
  · rw [if_pos h, if_pos h]
    obtain ⟨h1, h2, h3, h4⟩ := h
    obtain ⟨j, rfl⟩ : ∃ j : Nat, i = j := ⟨i.toNat, by omega⟩
    obtain ⟨k, rfl⟩ : ∃ k : Nat, n = k := ⟨n.toNat, by omega⟩
    have d1 : decide ((k : Int) < 0) = false := by simp
    have d2 : decide (hs.length < k) = false := by simp; omega
    have d3 : decide ((j : Int) < 0) = false := by simp
    have d4 : decide (k ≤ j) = false := by simp; omega
    obtain ⟨a2, c2, hsl, hS2⟩ := hS.takeR 22 29 Tryd.underlying22 Tryd.sizeHash (k : Int) k rfl (by rw [hcs_length]; omega)
    rw [hcs_take] at hS2
    have hlk : (hs.take k).length = k := by rw [List.length_take]; omega
    have R := hid (rpath_any (.slice a2 k c2) (hs.take k) (j : Int) w hS2 (by omega))
    have e1 : pathE (hs.take k) (j : Int) = 0 := by unfold pathE; rw [if_pos ⟨by omega, by omega⟩]
    have e2 : pathX (hs.take k) (j : Int) = pathL (hs.take k) j := by unfold pathX; rw [if_pos ⟨by omega, by omega⟩]; rfl
    rw [e1, e2] at R
    rw [show ((k : Int)).toNat = k from rfl, show ((j : Int)).toNat = j from rfl]
    generalize pathL (hs.take k) j = Q at *
    clear hS2 hS h1 h2 h3 h4 e1 e2 hlk
    go_enter Tryd.func17, Tryd.ntmps17
    go_wp2_with (go_at_call 46; refine R.out.mono ?_; rintro e w3 ⟨⟨u, rfl, hu⟩, hb3⟩)
    go_ret2
    exact ⟨⟨_, rfl, hu⟩, hb3⟩
  · rw [if_neg h, if_neg h]
    have hw := three_ways h
    clear h hS
    rcases hw with d1 | ⟨d1, d2⟩ | ⟨d1, d2, d3⟩ | ⟨d1, d2, d3, d4⟩
    case inr.inr.inr =>
      have d5 : decide (n ≤ i) = true := by simp; omega
      clear d4
      go_enter Tryd.func17, Tryd.ntmps17
      go_wp2
      go_ret2
      exact ⟨⟨_, rfl, slNil _⟩, Below.refl _ _⟩
    all_goals (
      go_enter Tryd.func17, Tryd.ntmps17
      go_wp2
      go_ret2
      exact ⟨⟨_, rfl, slNil _⟩, Below.refl _ _⟩)
set_option maxHeartbeats 2000000 in
theorem rtproof_any (v : Value) (hs : List (List UInt8)) (i n : Int) (w : World) (hl : hs.length ≤ 4096) (hS : SlAt w 32 v (hcs hs)) :
    Calls Tryd.prog 19 #[v, .int .i64 i, .int .i64 n] w fun e w' => (∃ u, e = .returned (.tuple #[u, .int .i64 (tproofE hs i n)]) ∧ SlAt w' 32 u (hcs (tproofX hs i n))) ∧ Below w.heap.size w w' := by
  obtain ⟨ad, cap, rfl, hcap⟩ := hS.formH
  by_cases h : tqIn hs i n
  · have e3 : tproofE hs i n = 0 := by unfold tproofE; rw [if_pos h]
    have hin := h
    obtain ⟨h1, h2, h3, h4⟩ := h
    obtain ⟨j, rfl⟩ : ∃ j : Nat, i = j := ⟨i.toNat, by omega⟩
    obtain ⟨k, rfl⟩ : ∃ k : Nat, n = k := ⟨n.toNat, by omega⟩
    have d1 : decide ((k : Int) < 0) = false := by simp
    have d2 : decide (hs.length < k) = false := by simp; omega
    have d3 : decide ((j : Int) < 0) = false := by simp
    have d4 : decide (k < j) = false := by simp; omega
    obtain ⟨a2, c2, hsl, hS2⟩ := hS.takeR 22 29 Tryd.underlying22 Tryd.sizeHash (k : Int) k rfl (by rw [hcs_length]; omega)
    rw [hcs_take] at hS2
    have hlk : (hs.take k).length = k := by rw [List.length_take]; omega
    have R := hid (rproof_any (hs.take k) (.slice a2 k c2) (j : Int) w (by omega) hS2)
    have e1 : rprE (hs.take k) (j : Int) = 0 := by unfold rprE; rw [if_pos ⟨by omega, by omega⟩]
    have e2 : rprX (hs.take k) (j : Int) = tproofX hs (j : Int) (k : Int) := by
      unfold rprX tproofX
      by_cases h0 : j = 0
      · subst h0; rw [if_neg (by omega), if_neg (fun h => h.2 rfl)]
      · rw [if_pos ⟨by omega, by omega⟩, if_pos ⟨hin, by omega⟩]; rfl
    rw [e1, e2] at R
    rw [e3]
    generalize tproofX hs (j : Int) (k : Int) = Q at *
    clear hS2 hS h1 h2 h3 h4 e1 e2 e3 hlk hin
    go_enter Tryd.func19, Tryd.ntmps19
    go_wp2_with (go_at_call 47; refine R.out.mono ?_; rintro e w3 ⟨⟨u, rfl, hu⟩, hb3⟩)
    go_ret2
    exact ⟨⟨_, rfl, hu⟩, hb3⟩
  · have e1 : tproofE hs i n = 82 := by unfold tproofE; rw [if_neg h]
    have e2 : tproofX hs i n = [] := by unfold tproofX; rw [if_neg (fun q => h q.1)]
    rw [e1, e2]
    have hw := three_ways h
    clear h hS e1 e2
    rcases hw with d1 | ⟨d1, d2⟩ | ⟨d1, d2, d3⟩ | ⟨d1, d2, d3, d4⟩
    case inr.inr.inr =>
      have d5 : decide (n < i) = true := by simp; omega
      clear d4
      go_enter Tryd.func19, Tryd.ntmps19
      go_wp2
      go_ret2
      exact ⟨⟨_, rfl, slNil _⟩, Below.refl _ _⟩
    all_goals (
      go_enter Tryd.func19, Tryd.ntmps19
      go_wp2
      go_ret2
      exact ⟨⟨_, rfl, slNil _⟩, Below.refl _ _⟩)
end Go.Proofs.YtbpjlancjdbehaaDoor
