/- speculumref06.Check -/
import Derived.Test.YtdllaenbkfajdaaDoorPathCome
import Derived.Test.YtdllaenbkfajdaaDoorSeq
set_option maxRecDepth 100000
namespace Go.Proofs.YtdllaenbkfajdaaDoor
open Go.RowKit Go.Spec
def chkOut (i n : Int) : Prop := n < 1 ∨ 4096 < n ∨ i < 0 ∨ n ≤ i
instance (i n : Int) : Decidable (chkOut i n) := by unfold chkOut; infer_instance
def checkE (x : List UInt8) (i n : Int) (p : List (List UInt8)) (r : List UInt8) : Int := if chkOut i n then 2 else if checkN x i.toNat n.toNat p r then 0 else 80
theorem chk_ways {i n : Int} (h : chkOut i n) : (decide (n < 1) = true) ∨ (decide (n < 1) = false ∧ decide (4096 < n) = true) ∨ (decide (n < 1) = false ∧ decide (4096 < n) = false ∧ decide (i < 0) = true) ∨ (decide (n < 1) = false ∧ decide (4096 < n) = false ∧ decide (i < 0) = false ∧ decide (n ≤ i) = true) := by
  unfold chkOut at h
  simp only [decide_eq_true_eq, decide_eq_false_iff_not]
  omega
set_option maxHeartbeats 1000000 in
theorem rcheck_out (x : List UInt8) (i n : Int) (v : Value) (r : List UInt8) (w : World) (h : chkOut i n) :
    Calls Tryd.prog 34 #[hv x, .int .i64 i, .int .i64 n, v, hv r] w fun e w' => e = .returned (.int .i64 2) ∧ Below w.heap.size w w' := by
  have HB : Below w.heap.size w ((w.alloc (.cells (hc x) 25)).alloc (.cells (hc r) 25)) := ((Below.refl _ w).alloc (Nat.le_refl _) _).alloc (by simp) _
  have hw := chk_ways h
  clear h
  rcases hw with d1 | ⟨d1, d2⟩ | ⟨d1, d2, d3⟩ | ⟨d1, d2, d3, d4⟩
  all_goals (
    go_enter Tryd.func34, Tryd.ntmps34
    go_wp2
    go_ret
    exact ⟨rfl, HB⟩)
set_option maxHeartbeats 4000000 in
theorem rcheck_in (x : List UInt8) (i n : Nat) (v : Value) (p : List (List UInt8)) (r : List UInt8) (w : World) (h1 : 1 ≤ n) (h2 : n ≤ 4096) (hi : i < n) (hx : x.length = 32) (hr : r.length = 32) (hpl : p.length ≤ 1000000) (hS : SlAt w 32 v (hcs p)) :
    Calls Tryd.prog 34 #[hv x, .int .i64 (i : Int), .int .i64 (n : Int), v, hv r] w fun e w' => e = .returned (.int .i64 (if checkN x i n p r then 0 else 80)) ∧ Below w.heap.size w w' := by
  have HB : Below w.heap.size w ((w.alloc (.cells (hc x) 25)).alloc (.cells (hc r) 25)) := ((Below.refl _ w).alloc (Nat.le_refl _) _).alloc (by simp) _
  have hX : Blk ((w.alloc (.cells (hc x) 25)).alloc (.cells (hc r) 25)) w.heap.size (hc x) 25 := (Blk.new _ _ _).alloc _
  have hR : Blk ((w.alloc (.cells (hc x) 25)).alloc (.cells (hc r) 25)) (w.heap.size + 1) (hc r) 25 := Blk.new' _ _ _ (by simp)
  have hT := hS.below HB (Nat.le_refl _)
  have C := hid (rcome_at n x i n v p _ h1 (Nat.le_refl _) (by omega) hi hx hpl hT)
  have hY := comeF_len n x i n p hx
  have hci := come_is n x i n p h1 (Nat.le_refl _) hi
  have hck : checkN x i n p r = ((comeF n x i n p).2 && ((comeF n x i n p).1 == r)) := by
    unfold checkN
    rw [hci.1]
    by_cases hl : p.length = (dirD i (n - 1)).length
    · rw [hci.2 hl]
    · rw [decide_eq_false hl]; rfl
  rw [hck]
  generalize comeF n x i n p = YB at *
  obtain ⟨Y, bb⟩ := YB
  dsimp only at hY C ⊢
  have HY := hid hY
  have Hs := hid (show (Tryd.prog.info? 25).map (·.size) = some (hc x).size by rw [hc_size, hx]; exact Tryd.sizeHash)
  have Hsr := hid (show (Tryd.prog.info? 25).map (·.size) = some (hc r).size by rw [hc_size, hr]; exact Tryd.sizeHash)
  have Hsy := hid (show (Tryd.prog.info? 25).map (·.size) = some Y.length by rw [hY]; exact Tryd.sizeHash)
  have d1 : decide ((n : Int) < 1) = false := by simp; omega
  have d2 : decide ((4096 : Int) < (n : Int)) = false := by simp; omega
  have d3 : decide ((i : Int) < 0) = false := by simp
  have d4 : decide (n ≤ i) = false := by simp; omega
  have hs3 := Tryd.sizeHash
  have hs5 := Tryd.sizeU8
  have hge := Tryd.guardHash3
  have HX := hid hX; have HR := hid hR; have HBh := hid HB
  generalize hw0 : ((w.alloc (.cells (hc x) 25)).alloc (.cells (hc r) 25)) = w0 at *
  have Hw0 := hid hw0
  clear hck hci hS hT hx h1 h2 hi hpl hw0 hX hR HB
  cases bb
  · go_enter Tryd.func34, Tryd.ntmps34
    go_upto_region 1 with fail
    show Code.wp _ _ _ _ ((w.alloc (.cells (hc x) 25)).alloc (.cells (hc r) 25))
    rw [Hw0.out]
    go_wp2_with (first
      | ((with_reducible show wpList _ _ _ ({ dst := _, op := Op.load 25 _, type := _, pos := _, after := _, guard := _ } :: _) _ _); refine wpList_load_blk rfl 25 _ rfl w.heap.size rfl _ (hc x) _ HX.out Tryd.underlying25 rfl Hs.out ?_)
      | (go_at_call 48; refine C.out.mono ?_; rintro e w5 ⟨rfl, hb5⟩)
      | ((with_reducible show wpList _ _ _ ({ dst := _, op := Op.store _ _ _, type := _, pos := _, after := _, guard := _ } :: _) _ (World.alloc w5 _)); refine wpList_store_new rfl 25 _ _ rfl rfl Y rfl (hc zero32) 25 (by rw [HY.out]; rfl) Hsy.out ?_))
    go_ret
    exact ⟨rfl, (bth HBh.out hb5).alloc (bth HBh.out hb5).size _⟩
  · by_cases hq : (Y == r) = true
    all_goals (
      try rw [Bool.not_eq_true] at hq
      simp only [hq, Bool.true_and, Bool.false_eq_true, if_true, if_false]
      go_enter Tryd.func34, Tryd.ntmps34
      go_upto_region 1 with fail
      show Code.wp _ _ _ _ ((w.alloc (.cells (hc x) 25)).alloc (.cells (hc r) 25))
      rw [Hw0.out]
      go_upto_region 4 with (first
        | ((with_reducible show wpList _ _ _ ({ dst := _, op := Op.load 25 _, type := _, pos := _, after := _, guard := _ } :: _) _ _); refine wpList_load_blk rfl 25 _ rfl w.heap.size rfl _ (hc x) _ HX.out Tryd.underlying25 rfl Hs.out ?_)
        | (go_at_call 48; refine C.out.mono ?_; rintro e w5 ⟨rfl, hb5⟩)
        | ((with_reducible show wpList _ _ _ ({ dst := _, op := Op.store _ _ _, type := _, pos := _, after := _, guard := _ } :: _) _ (World.alloc w5 _)); refine wpList_store_new rfl 25 _ _ rfl rfl Y rfl (hc zero32) 25 (by rw [HY.out]; rfl) Hsy.out ?_))
      show Code.wp _ _ _ _ (w5.alloc (.cells (hc Y) 25))
      have HY6 := hid (Blk.new w5 (hc Y) 25)
      have HR6 := hid ((HR.out.later hb5).alloc (.cells (hc Y) 25))
      have HB6 := hid ((bth HBh.out hb5).alloc (bth HBh.out hb5).size (.cells (hc Y) 25))
      generalize w5.alloc (.cells (hc Y) 25) = w6 at *
      generalize w5.heap.size = g5 at *
      refine wp_region_seq_later ?_
      repeat (first
        | (refine wpQuiet_load_later rfl 25 _ rfl g5 rfl (hc Y) 25 _ HY6.out Tryd.underlying25 rfl (by rw [hc_size]; exact Hsy.out) ?_; simp only [Act.put, List.setIfInBounds_toArray, List.set_cons_succ, List.set_cons_zero])
        | (refine wpQuiet_load_later rfl 25 _ rfl (w.heap.size + 1) rfl (hc r) 25 _ HR6.out Tryd.underlying25 rfl Hsr.out ?_; simp only [Act.put, List.setIfInBounds_toArray, List.set_cons_succ, List.set_cons_zero])
        | go_big_quiet_step (fail))
      refine wpQuiet_nil ?_
      rintro _ ⟨q7, rfl⟩
      have hb7 := lat_below q7
      generalize lat q7 = w7 at *
      go_wp2
      go_ret
      exact ⟨rfl, bth HB6.out hb7⟩)
theorem rcheck_any (x : List UInt8) (i n : Int) (v : Value) (p : List (List UInt8)) (r : List UInt8) (w : World) (hx : x.length = 32) (hr : r.length = 32) (hpl : p.length ≤ 1000000) (hS : SlAt w 32 v (hcs p)) :
    Calls Tryd.prog 34 #[hv x, .int .i64 i, .int .i64 n, v, hv r] w fun e w' => e = .returned (.int .i64 (checkE x i n p r)) ∧ Below w.heap.size w w' := by
  unfold checkE
  by_cases h : chkOut i n
  · rw [if_pos h]; exact rcheck_out x i n v r w h
  · rw [if_neg h]
    unfold chkOut at h
    obtain ⟨a, rfl⟩ : ∃ a : Nat, i = a := ⟨i.toNat, by omega⟩
    obtain ⟨b, rfl⟩ : ∃ b : Nat, n = b := ⟨n.toNat, by omega⟩
    exact rcheck_in x a b v p r w (by omega) (by omega) (by omega) hx hr hpl hS
end Go.Proofs.YtdllaenbkfajdaaDoor
