/- sha.mix -/
import Derived.Test.YtbpjlancjdbehaaDoorQShaSpread

set_option maxRecDepth 100000
namespace Go.Proofs.YtbpjlancjdbehaaDoor
open Go.RowKit Go.Spec
theorem Tryd.size8 : (Tryd.prog.info? 105).map (·.size) = some 8 := by kernel_rfl
theorem Tryd.sizeU32 : (Tryd.prog.info? 104).map (·.size) = some 1 := by kernel_rfl
theorem v8cells {w : World} {g : Nat} {t : TypeId} {a b c d e f g' h : Nat} (hB : Blk w g (rowOf uc [a, b, c, d, e, f, g', h]) t) :
    w.cell? ⟨g, 0, none⟩ = some (.int .u32 a) ∧ w.cell? ⟨g, 1, none⟩ = some (.int .u32 b) ∧ w.cell? ⟨g, 2, none⟩ = some (.int .u32 c) ∧ w.cell? ⟨g, 3, none⟩ = some (.int .u32 d) ∧
    w.cell? ⟨g, 4, none⟩ = some (.int .u32 e) ∧ w.cell? ⟨g, 5, none⟩ = some (.int .u32 f) ∧ w.cell? ⟨g, 6, none⟩ = some (.int .u32 g') ∧ w.cell? ⟨g, 7, none⟩ = some (.int .u32 h) :=
  ⟨hB.u32 0 (by simp), hB.u32 1 (by simp), hB.u32 2 (by simp), hB.u32 3 (by simp), hB.u32 4 (by simp), hB.u32 5 (by simp), hB.u32 6 (by simp), hB.u32 7 (by simp)⟩
theorem t_val (v : V8) (K n : Nat) (ok : v.ok) :
    IntKind.u32.wrap (IntKind.u32.wrap (IntKind.u32.wrap (IntKind.u32.wrap ((v.h : Int) + bits .xor .u32 (bits .xor .u32 ((rotr v.e 6 : Nat) : Int) ((rotr v.e 11 : Nat) : Int)) ((rotr v.e 25 : Nat) : Int)) + bits .xor .u32 (bits .and .u32 (v.e : Int) (v.f : Int)) (bits .and .u32 (bits .xor .u32 IntKind.u32.max (v.e : Int)) (v.g : Int))) + (K : Int)) + (n : Int)) = ((tF v K n : Nat) : Int) := by
  have he := ok.e
  have hf := ok.f
  have hg := ok.g
  rw [bx3 _ _ _ (rotr_lt _ _ he) (rotr_lt _ _ he) (rotr_lt _ _ he), u32_and_nat _ _ he hf, show (IntKind.u32.max : Int) = ((4294967295 : Nat) : Int) by rfl, u32_xor_nat 4294967295 _ (by omega) he, u32_and_nat _ _ (xor_lt (by omega) he) hg,
    u32_xor_nat _ _ (and_lt he) (and_lt (xor_lt (by omega) he))]
  simp only [IntKind.wrap_u32]
  unfold tF su1 chF
  omega
theorem u_val (v : V8) (ok : v.ok) :
    IntKind.u32.wrap (bits .xor .u32 (bits .xor .u32 ((rotr v.a 2 : Nat) : Int) ((rotr v.a 13 : Nat) : Int)) ((rotr v.a 22 : Nat) : Int) + bits .xor .u32 (bits .xor .u32 (bits .and .u32 (v.a : Int) (v.b : Int)) (bits .and .u32 (v.a : Int) (v.c : Int))) (bits .and .u32 (v.b : Int) (v.c : Int))) = ((uF v : Nat) : Int) := by
  have ha := ok.a
  have hb := ok.b
  have hc := ok.c
  rw [bx3 _ _ _ (rotr_lt _ _ ha) (rotr_lt _ _ ha) (rotr_lt _ _ ha), u32_and_nat _ _ ha hb, u32_and_nat _ _ ha hc, u32_and_nat _ _ hb hc, bx3 _ _ _ (and_lt ha) (and_lt ha) (and_lt hb), IntKind.wrap_u32]
  unfold uF su0 maj
  omega
def addK (xs ys : List Nat) : Nat → List Nat
  | 0 => xs
  | k + 1 => (addK xs ys k).set k ((xs.getD k 0 + ys.getD k 0) % 4294967296)
theorem addK_len (xs ys : List Nat) : ∀ k, (addK xs ys k).length = xs.length
  | 0 => rfl
  | k + 1 => by rw [addK, List.length_set, addK_len xs ys k]
theorem addK_get (xs ys : List Nat) : ∀ k j, k ≤ j → (addK xs ys k).getD j 0 = xs.getD j 0
  | 0, _, _ => rfl
  | k + 1, j, h => by
    rw [addK, ← addK_get xs ys k j (by omega), List.getD_eq_getElem?_getD, List.getElem?_set_ne (by omega), List.getD_eq_getElem?_getD]
theorem addK_all (V v : V8) : addK V.l v.l 8 = (addV V v).l := rfl
set_option maxHeartbeats 1000000 in
theorem mix_any (v : V8) (b : List UInt8) (w : World) (hv : v.ok) (hb : b.length = 64) (hT : Tab w 1 rK) :
    Calls Tryd.prog 72 #[.agg (rowOf uc v.l), sv b] w fun e w' => e = .returned (.agg (rowOf uc (mixF v b).l)) ∧ Below w.heap.size w w' := by
  have Hs := hid (show (Tryd.prog.info? 105).map (·.size) = some (rowOf uc v.l).size by rw [rowOf_size]; exact Tryd.size8)
  have HT := hid hT; clear hT
  have Hb := hid hb; clear hb
  go_enter Tryd.func72, Tryd.ntmps72
  go_wp2_with (first
    | ((with_reducible show wpList _ _ _ ({ dst := _, op := Op.load 105 _, type := _, pos := _, after := _, guard := _ } :: _) _ _); refine wpList_load_blk rfl 105 _ rfl w.heap.size rfl _ (rowOf uc v.l) _ ((Blk.new w _ _).alloc _) Tryd.underlying105 rfl Hs.out ?_)
    | ((with_reducible show wpList _ _ _ ({ dst := _, op := Op.store _ _ _, type := _, pos := _, after := _, guard := _ } :: _) _ _); refine wpList_store_blk rfl 105 _ _ rfl (w.heap.size + 1 + 1) rfl (rowOf uc v.l) rfl _ _ (Blk.new' _ _ _ (by simp)) rfl Hs.out (uc_row_one _) ?_)
    | (go_at_call 95; refine (spread_any b _ Hb.out).mono ?_; rintro e w1 ⟨rfl, hb1⟩))
  have hb2 : Below w.heap.size w w1 := ((((Below.refl _ w).alloc (Nat.le_refl _) _).alloc (by simp) _).alloc (by simp; omega) _ |>.setRow (by omega) _).trans (hb1.mono (by simp; omega))
  have hW0 : Blk w1 w.heap.size (rowOf uc v.l) 105 := ((((Blk.new w _ _).alloc _).alloc _).setRow_ne (by omega)).later hb1
  have hW1 : Blk w1 (w.heap.size + 1) #[.int .u32 0, .int .u32 0, .int .u32 0, .int .u32 0, .int .u32 0, .int .u32 0, .int .u32 0, .int .u32 0] 105 := (((Blk.new' _ _ _ (by simp)).alloc _).setRow_ne (by omega)).later hb1
  have hW2 : Blk w1 (w.heap.size + 1 + 1) (rowOf uc v.l) 105 := ((Blk.new' _ _ _ (by simp)).setRow).later hb1
  have hT1 := HT.out.later hb2
  clear hb1
  generalize hg5 : w.heap.size + 1 + 1 = g5 at *
  generalize hg4 : w.heap.size + 1 = g4 at *
  have Hg5 := hid hg5; have Hg4 := hid hg4; clear hg5 hg4
  have Hws := hid (fun k (h : k < 64) => run_index_row (P := Tryd.prog) 130 104 64 (wsch b 64) k Tryd.underlying130 Tryd.underlying104 Tryd.sizeU32 h (by rw [wsch_len]; exact h))
  go_loopw [16] (fun i wr => ∃ k : Nat, k ≤ 64 ∧ i = .int .i64 k ∧ Blk wr g5 (rowOf uc (rnds v (wsch b 64) k).l) 105 ∧ Blk wr w.heap.size (rowOf uc v.l) 105 ∧
      Blk wr g4 #[.int .u32 0, .int .u32 0, .int .u32 0, .int .u32 0, .int .u32 0, .int .u32 0, .int .u32 0, .int .u32 0] 105 ∧ Tab wr 1 rK ∧ Below w.heap.size w wr) (fun i _ => 64 - (intOf i).toNat)
  case atStart => exact ⟨0, by omega, rfl, hW2, hW0, hW1, hT1, hb2⟩
  case round =>
    obtain ⟨k, hk, rfl, hB, h0, h4, hTr, hbw⟩ := hrel
    clear hW0 hW1 hW2 hT1 hb2
    by_cases hlt : k < 64
    · have hix := Hws.out k hlt
      have hkk : (k : Int) < 64 := by omega
      have hVok := rnds_ok hv (wsch b 64) k
      have Hnext := hid (show rnds v (wsch b 64) (k + 1) = rnd (rnds v (wsch b 64) k) (rK.getD k 0) ((wsch b 64).getD k 0) from rfl)
      have hcK := hTr.at_ k hlt
      have hKlt : rK.getD k 0 < 4294967296 := by
        have : ∀ k : Fin 64, rK.getD k.val 0 < 4294967296 := by decide +kernel
        exact this ⟨k, hlt⟩
      have hNlt := wsch_getD_lt b 64 k
      generalize rK.getD k 0 = K at *
      generalize (wsch b 64).getD k 0 = n at *
      generalize hV : rnds v (wsch b 64) k = V at *
      have HV := hid hV; clear hV
      obtain ⟨a, b', c, d, e, f, g', z⟩ := V
      have HT6 := hid (t_val ⟨a, b', c, d, e, f, g', z⟩ K n hVok)
      have HT7 := hid (u_val ⟨a, b', c, d, e, f, g', z⟩ hVok)
      have HTlt := tF_lt ⟨a, b', c, d, e, f, g', z⟩ K n
      have HUlt := uF_lt ⟨a, b', c, d, e, f, g', z⟩
      have Hrnd := hid (show rnd ⟨a, b', c, d, e, f, g', z⟩ K n = ⟨(tF ⟨a, b', c, d, e, f, g', z⟩ K n + uF ⟨a, b', c, d, e, f, g', z⟩) % 4294967296, a, b', c, (d + tF ⟨a, b', c, d, e, f, g', z⟩ K n) % 4294967296, e, f, g'⟩ from rfl)
      generalize tF ⟨a, b', c, d, e, f, g', z⟩ K n = T at *
      generalize uF ⟨a, b', c, d, e, f, g', z⟩ = U at *
      dsimp only at HT6 HT7
      obtain ⟨va, vb, vc, vd, ve, vf, vg, vh⟩ := hVok
      simp only at va vb vc vd ve vf vg vh
      simp only [V8.l] at hB
      obtain ⟨c0, c1, c2, c3, c4, c5, c6, c7⟩ := v8cells hB
      go_wp2
      go_quiet (fail)
      go_wp2_with fail
      refine wp_region_tail 28 (by kernel_rfl) (by kernel_rfl) ?_
      intro w1 he1 hb1
      simp only [List.take_succ_cons, List.take_zero, List.drop_succ_cons, List.drop_zero]
      have hB1 := hB.heap (w' := w1) he1
      have hcK1 : w1.cell? ⟨1, k, none⟩ = some (.int .u32 K) := by rw [← hcK]; unfold World.cell?; rw [he1]; rfl
      obtain ⟨c10, c11, c12, c13, c14, c15, c16, c17⟩ := v8cells hB1
      repeat (first | still_step | still_call (right_i _ _ _ ve (by omega) (by omega)))
      refine wpStill_nil ?_
      go_wp2_with fail
      rw [HT6.out]
      refine wp_region_tail 24 (by kernel_rfl) (by kernel_rfl) ?_
      intro w2 he2 hb2
      simp only [List.take_succ_cons, List.take_zero, List.drop_succ_cons, List.drop_zero]
      have hB2 := hB1.heap (w' := w2) he2
      obtain ⟨c20, c21, c22, c23, c24, c25, c26, c27⟩ := v8cells hB2
      repeat (first | still_step | still_call (right_i _ _ _ va (by omega) (by omega)))
      refine wpStill_nil ?_
      rw [HT7.out]
      have hnew : (Value.agg #[.int .u32 (((T : Int) + (U : Int)) % 4294967296), .int .u32 (a : Int), .int .u32 (b' : Int), .int .u32 (c : Int), .int .u32 (((d : Int) + (T : Int)) % 4294967296), .int .u32 (e : Int), .int .u32 (f : Int), .int .u32 (g' : Int)])
          = .agg (rowOf uc [(T + U) % 4294967296, a, b', c, (d + T) % 4294967296, e, f, g']) := by
        simp [rowOf, uc]
      have Hnew := hid hnew; clear hnew
      go_wp2_with ((with_reducible show wpList _ _ _ ({ dst := _, op := Op.store _ _ _, type := _, pos := _, after := _, guard := _ } :: _) _ _); refine wpList_store_blk rfl 105 _ _ rfl g5 rfl (rowOf uc [(T + U) % 4294967296, a, b', c, (d + T) % 4294967296, e, f, g']) Hnew.out _ _ hB2 rfl Tryd.size8 (uc_row_one _) ?_)
      go_roundw
      case rel =>
        have hg0 : w.heap.size < g4 := by have := Hg4.out; omega
        have hg1 : g4 < g5 := by have := Hg4.out; have := Hg5.out; omega
        have he3 : w2.heap = wr.heap := by rw [he2]; exact he1
        refine ⟨k + 1, by omega, by go_num, ?_, ((h0.heap he3).setRow_ne (by omega)), ((h4.heap he3).setRow_ne (by omega)), ?_, ?_⟩
        · rw [Hnext.out, Hrnd.out]
          exact hB2.setRow
        · exact Tab.row (hTr.heap he3) (by have := HT.out.lt; omega)
        · exact ((below_drewN hbw nq).trans ((hb1.trans (hb2.mono hb1.size)).mono hbw.size)).setRow (by omega) _
      case measure => simp [intOf]; omega
    · have hk64 : k = 64 := by omega
      clear Hws
      have HmixF := hid (show mixF v b = addV (rnds v (wsch b 64) k) v by rw [hk64]; rfl)
      clear hk64
      generalize rnds v (wsch b 64) k = V at *
      go_wp2
      have hg0 : w.heap.size < g4 := by have := Hg4.out; omega
      have hg1 : g4 < g5 := by have := Hg4.out; have := Hg5.out; omega
      go_loopw [95] (fun i wr => ∃ k : Nat, k ≤ 8 ∧ i = .int .i64 k ∧ Blk wr g5 (rowOf uc (addK V.l v.l k)) 105 ∧ Blk wr w.heap.size (rowOf uc v.l) 105 ∧
          Blk wr g4 #[.int .u32 0, .int .u32 0, .int .u32 0, .int .u32 0, .int .u32 0, .int .u32 0, .int .u32 0, .int .u32 0] 105 ∧ Below w.heap.size w wr) (fun i _ => 8 - (intOf i).toNat)
      case atStart => exact ⟨0, by omega, rfl, hB, h0, h4, hbw⟩
      case round =>
        clear hB h0 h4 hTr hbw
        obtain ⟨k, hk, rfl, hB, h0, h4, hbw⟩ := hrel
        by_cases hlt : k < 8
        · have hkk : (k : Int) < 8 := by omega
          have w16 := IntWalk.i64_in (k : Int) (by omega)
          have Hset := hid (show addK V.l v.l (k + 1) = (addK V.l v.l k).set k ((V.l.getD k 0 + v.l.getD k 0) % 4294967296) from rfl)
          have Hget := hid (addK_get V.l v.l k k (Nat.le_refl _))
          have Hl := hid (addK_len V.l v.l k)
          go_wp2_with fail
          refine wp_region_tail 8 (by kernel_rfl) (by kernel_rfl) ?_
          intro w1 he1 hb1
          simp only [List.take_succ_cons, List.take_zero, List.drop_succ_cons, List.drop_zero]
          have hB1 := hB.heap (w' := w1) he1
          have c1 := hB1.u32 k (by rw [Hl.out]; exact hlt)
          rw [Hget.out] at c1
          have c2 := (h0.heap (w' := w1) he1).u32 k (by exact hlt)
          have f1 := hB1.free k
          have Hfin := hid (hB1.u32set k ((V.l.getD k 0 + v.l.getD k 0) % 4294967296))
          generalize V.l.getD k 0 = x at *
          generalize v.l.getD k 0 = y at *
          have Hxy := hid (show (((x + y) % 4294967296 : Nat) : Int) = ((x : Int) + (y : Int)) % 4294967296 by omega)
          repeat (first | still_step)
          refine wpStill_nil ?_
          go_wp2
          go_roundw
          case rel =>
            refine ⟨k + 1, by omega, by go_num, ?_, ((h0.heap he1).setCell_ne (by show g5 ≠ _; omega) _), ((h4.heap he1).setCell_ne (by show g5 ≠ _; omega) _), (hbw.trans (hb1.mono hbw.size)).setCell (by show _ ≤ g5; omega) _⟩
            rw [Hset.out, ← Hxy.out]; exact Hfin.out
          case measure => simp [intOf]; omega
        · obtain rfl : k = 8 := by omega
          rw [addK_all, ← HmixF.out] at hB
          have Hs2 := hid (show (Tryd.prog.info? 105).map (·.size) = some (rowOf uc (mixF v b).l).size by rw [rowOf_size, V8.len]; exact Tryd.size8)
          have Hl8 := hid (show (rowOf uc (mixF v b).l).size = 8 by rw [rowOf_size, V8.len])
          have HB := hid hB; clear hB
          go_wp2_with (first
            | ((with_reducible show wpList _ _ _ ({ dst := _, op := Op.load 105 _, type := _, pos := _, after := _, guard := _ } :: _) _ _); refine wpList_load_blk rfl 105 _ rfl _ rfl _ _ _ HB.out Tryd.underlying105 rfl Hs2.out ?_)
            | ((with_reducible show wpList _ _ _ ({ dst := _, op := Op.store _ _ _, type := _, pos := _, after := _, guard := _ } :: _) _ _); refine wpList_store_blk rfl 105 _ _ rfl g4 rfl _ rfl _ _ h4 Hl8.out Hs2.out (uc_row_one _) ?_))
          have HB2 := h4.setRow (cs' := rowOf uc (mixF v b).l)
          refine bodyPost_ret (results_cell_row rfl _ _ g4 105 _ (0, 0) _ rfl HB2 Tryd.underlying105 rfl Hs2.out) rfl ⟨rfl, ?_⟩
          exact hbw.setRow (by omega) _
end Go.Proofs.YtbpjlancjdbehaaDoor
