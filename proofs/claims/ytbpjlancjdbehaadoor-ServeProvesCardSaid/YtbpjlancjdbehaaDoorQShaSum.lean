/- sha.Sum -/
import Derived.Test.YtbpjlancjdbehaaDoorQShaLaw

set_option maxRecDepth 100000
namespace Go.Proofs.YtbpjlancjdbehaaDoor
open Go.RowKit Go.Spec
structure ShaG (w : World) : Prop where
  first : Tab w 0 v0.l
  rounds : Tab w 1 rK
theorem ShaG.later {w w' : World} (h : ShaG w) (hb : Below w.heap.size w w') : ShaG w' := ⟨h.first.later hb, h.rounds.later hb⟩
theorem Tryd.sizeU8 : (Tryd.prog.info? 5).map (·.size) = some 1 := by kernel_rfl
theorem Tryd.sizeHash : (Tryd.prog.info? 29).map (·.size) = some 32 := by kernel_rfl
def strLen : Value → Nat
  | .string s => s.size
  | _ => 0
theorem tabCells {w : World} {g : Nat} {ns : List Nat} (h : Tab w g ns) : ∀ j v, (ns.map uc)[j]? = some v → w.cell? ((⟨g, 0, none⟩ : Addr).add j) = some v := by
  intro j v hj
  rw [Addr.add_lit, Nat.zero_add]
  rw [List.getElem?_map] at hj
  cases hq : ns[j]? with
  | none => simp [hq] at hj
  | some x =>
    rw [hq] at hj
    injection hj with hj
    have hlt : j < ns.length := (List.getElem?_eq_some_iff.1 hq).1
    rw [h.at_ j hlt, List.getD_eq_getElem?_getD, hq, ← hj]
    rfl
def outK (v : V8) (k : Nat) : List UInt8 := (v.l.take k).flatMap (beL · 4)
theorem outK_len (v : V8) (k : Nat) (h : k ≤ 8) : (outK v k).length = 4 * k := by
  unfold outK
  rw [List.length_flatMap]
  have : List.map (fun x => (beL x 4).length) (v.l.take k) = List.replicate (v.l.take k).length 4 := by
    rw [List.eq_replicate_iff]
    refine ⟨by simp, fun b hb => ?_⟩
    obtain ⟨x, _, rfl⟩ := List.mem_map.1 hb
    exact beL_len x 4
  rw [this, List.sum_replicate_nat, List.length_take, V8.len]
  omega
theorem outK_next (v : V8) (k : Nat) (h : k < 8) : outK v (k + 1) = outK v k ++ beL (v.l.getD k 0) 4 := by
  unfold outK
  have hk : k < v.l.length := by rw [V8.len]; exact h
  rw [List.take_succ_eq_append_getElem hk, List.flatMap_append, List.getD_eq_getElem?_getD, List.getElem?_eq_getElem hk]
  simp
theorem outK_all (v : V8) : outK v 8 = outL v := rfl
theorem v8_lt {v : V8} (ok : v.ok) (k : Nat) : v.l.getD k 0 < 4294967296 := by
  obtain ⟨a, b, c, d, e, f, g, h⟩ := ok
  rcases k with _ | _ | _ | _ | _ | _ | _ | _ | k
  · exact a
  · exact b
  · exact c
  · exact d
  · exact e
  · exact f
  · exact g
  · exact h
  · exact Nat.zero_lt_of_lt a
theorem out_copy (v : V8) (k : Nat) (h : k < 8) :
    ((hc (outK v k ++ List.replicate (32 - 4 * k) 0)).toList.take (4 * k) ++ ((beL (v.l.getD k 0) 4).take (32 - 4 * k)).map bcell ++ (hc (outK v k ++ List.replicate (32 - 4 * k) 0)).toList.drop (4 * k + ((beL (v.l.getD k 0) 4).take (32 - 4 * k)).length)).toArray
      = hc (outK v (k + 1) ++ List.replicate (32 - 4 * (k + 1)) 0) := by
  have h1 : (beL (v.l.getD k 0) 4).take (32 - 4 * k) = beL (v.l.getD k 0) 4 := List.take_of_length_le (by rw [beL_len]; omega)
  rw [h1, hc_toList, beL_len, List.map_append, List.take_left' (by rw [List.length_map, outK_len v k (by omega)]), List.drop_append, List.drop_eq_nil_of_le (by rw [List.length_map, outK_len v k (by omega)]; omega),
    List.nil_append, List.length_map, outK_len v k (by omega), outK_next v k h]
  unfold hc
  simp only [List.map_append, List.map_replicate, List.drop_replicate]
  rw [show 32 - 4 * k - (4 * k + 4 - 4 * k) = 32 - 4 * (k + 1) by omega]
set_option maxHeartbeats 2000000 in
theorem sum_any (l : List UInt8) (w : World) (hl : l.length ≤ 1000000000) (hG : ShaG w) :
    Calls Tryd.prog 49 #[sv l] w fun e w' => e = .returned (hv (sumL l)) ∧ Below w.heap.size w w' := by
  have HG := hid hG; clear hG
  have Hs := hid (show (Tryd.prog.info? 105).map (·.size) = some (v0.l.map uc).length by rw [List.length_map, V8.len]; exact Tryd.size8)
  have Hs2 := hid (show (Tryd.prog.info? 105).map (·.size) = some (rowOf uc v0.l).size by rw [rowOf_size, V8.len]; exact Tryd.size8)
  have Hl8 := hid (show (rowOf uc v0.l).size = 8 by rw [rowOf_size, V8.len])
  go_enter Tryd.func49, Tryd.ntmps49
  go_wp2_with (first
    | ((with_reducible show wpList _ _ _ ({ dst := _, op := Op.load 105 _, type := _, pos := _, after := _, guard := _ } :: _) _ _); refine wpList_load_agg rfl 105 _ rfl ⟨0, 0, none⟩ rfl (v0.l.map uc) _ (tabCells (HG.out.first.later ((Below.refl _ _).alloc (Nat.le_refl _) _))) Tryd.underlying105 rfl Hs.out ?_)
    | ((with_reducible show wpList _ _ _ ({ dst := _, op := Op.store _ _ _, type := _, pos := _, after := _, guard := _ } :: _) _ _); refine wpList_store_blk rfl 105 _ _ rfl (w.heap.size + 1) rfl (rowOf uc v0.l) rfl _ _ (Blk.new' _ _ _ (by simp)) Hl8.out Hs2.out (uc_row_one _) ?_)
    | (go_at_call 71; refine (filled_any l _ hl).mono ?_; rintro e w1 ⟨rfl, hb1⟩))
  have hb2 : Below w.heap.size w w1 := (((Below.refl _ w).alloc (Nat.le_refl _) _).alloc (by simp) _ |>.setRow (by omega) _).trans (hb1.mono (by simp; omega))
  have hW0 : Blk w1 w.heap.size (hc zero32) 29 := (((Blk.new w _ _).alloc _).setRow_ne (by omega)).later hb1
  have hW1 : Blk w1 (w.heap.size + 1) (rowOf uc v0.l) 105 := ((Blk.new' _ _ _ (by simp)).setRow).later hb1
  have hT1 := HG.out.rounds.later hb2
  clear hb1
  have hp0 := padL_len l
  have hp1 := padL_le l
  obtain ⟨N, hN⟩ : ∃ N, (padL l).length = 64 * N := ⟨(padL l).length / 64, by omega⟩
  have Hsum := hid (show sumL l = outL (blks (padL l) N) by rw [sumL, hN, Nat.mul_div_cancel_left N (by omega)])
  generalize padL l = p at *
  have Hp := hid hN
  have hpl : p.length ≤ 2000000000 := by omega
  clear hN hp0 hp1
  generalize hg3 : w.heap.size + 1 = g3 at *
  have Hg3 := hid hg3; clear hg3
  go_loopw [4] (fun t wr => ∃ n : Nat, n ≤ N ∧ t = sv (p.drop (64 * n)) ∧ Blk wr g3 (rowOf uc (blks p n).l) 105 ∧ Blk wr w.heap.size (hc zero32) 29 ∧ Tab wr 1 rK ∧ Below w.heap.size w wr) (fun t _ => strLen t)
  case atStart => exact ⟨0, by omega, by simp, hW1, hW0, hT1, hb2⟩
  case round =>
    obtain ⟨n, hn, rfl, hB, h0, hT, hbw⟩ := hrel
    clear hW0 hW1 hT1 hb2
    by_cases hlt : n < N
    · have hd1 : (p.drop (64 * n)).length = 64 * (N - n) := by rw [List.length_drop, Hp.out]; omega
      have Hd1 := hid hd1
      have hne : ((p.drop (64 * n)) == []) = false := by
        cases hq : p.drop (64 * n) with
        | nil => rw [hq] at hd1; simp at hd1; omega
        | cons x xs => rfl
      have hne2 : (p.drop (64 * n)).isEmpty = false := by
        cases hq : p.drop (64 * n) with
        | nil => rw [hq] at hd1; simp at hd1; omega
        | cons x xs => rfl
      have hlen : 64 ≤ (p.drop (64 * n)).length := by omega
      have hlen2 : (p.drop (64 * n)).length ≤ 2000000000 := by rw [List.length_drop]; omega
      have Hnext := hid (show blks p (n + 1) = mixF (blks p n) ((p.drop (64 * n)).take 64) from rfl)
      have Hdr := hid (show (p.drop (64 * n)).drop 64 = p.drop (64 * (n + 1)) by rw [List.drop_drop]; congr 1)
      have Htk := hid (show ((p.drop (64 * n)).take 64).length = 64 by rw [List.length_take]; omega)
      have Hok := hid (blks_ok p n)
      generalize p.drop (64 * n) = q at *
      generalize blks p n = V at *
      clear hd1
      go_wp2_with fail
      have Hs3 := hid (show (Tryd.prog.info? 105).map (·.size) = some (rowOf uc V.l).size by rw [rowOf_size, V8.len]; exact Tryd.size8)
      have Hs4 := hid (show (Tryd.prog.info? 105).map (·.size) = some (rowOf uc (mixF V (q.take 64)).l).size by rw [rowOf_size, V8.len]; exact Tryd.size8)
      have Hl4 := hid (show (rowOf uc (mixF V (q.take 64)).l).size = (rowOf uc V.l).size by rw [rowOf_size, V8.len, rowOf_size, V8.len])
      have hg0 : w.heap.size < g3 := by have := Hg3.out; omega
      have hlen3 : (64 : Int) ≤ (q.length : Int) := by omega
      refine wp_region_tail 3 (by kernel_rfl) (by kernel_rfl) ?_
      intro w1 he1 hb1
      simp only [List.take_succ_cons, List.take_zero, List.drop_succ_cons, List.drop_zero]
      have hB1 := hB.heap (w' := w1) he1
      have HT1 := hid (hT.heap (w' := w1) he1)
      repeat (first | (refine wpStill_load_blk rfl 105 _ rfl g3 rfl _ (rowOf uc V.l) _ hB1 Tryd.underlying105 rfl Hs3.out ?_) | still_step)
      refine wpStill_nil ?_
      go_wp2_with (first
        | (go_at_call 72; refine (mix_any V (q.take 64) _ Hok.out Htk.out HT1.out).mono ?_; rintro e w2 ⟨rfl, hb2⟩; have HB2 := hid (hB1.later hb2))
        | ((with_reducible show wpList _ _ _ ({ dst := _, op := Op.store _ _ _, type := _, pos := _, after := _, guard := _ } :: _) _ _); refine wpList_store_blk rfl 105 _ _ rfl g3 rfl (rowOf uc (mixF V (q.take 64)).l) rfl _ _ HB2.out Hl4.out Hs4.out (uc_row_one _) ?_))
      go_roundw
      case rel =>
        refine ⟨n + 1, by omega, by rw [Hdr.out], ?_, ((h0.heap he1).later hb2).setRow_ne (by omega), Tab.row (HT1.out.later hb2) (by have := HG.out.rounds.lt; omega), ?_⟩
        · rw [Hnext.out]; exact HB2.out.setRow
        · exact ((hbw.trans (hb1.mono hbw.size)).trans (hb2.mono (by have := hbw.size; have := hb1.size; omega))).setRow (by omega) _
      case measure => simp [strLen, mkS_size]; omega
    · have hn' : n = N := by omega
      have Hsum2 := hid (show sumL l = outL (blks p n) by rw [hn']; exact Hsum.out)
      have hq : p.drop (64 * n) = [] := List.drop_eq_nil_of_le (by rw [Hp.out, hn']; exact Nat.le_refl _)
      rw [hq]
      clear hq hn' hlt
      have Hok := hid (blks_ok p n)
      generalize blks p n = V at *
      have Hs3 := hid (show (Tryd.prog.info? 105).map (·.size) = some (rowOf uc V.l).size by rw [rowOf_size, V8.len]; exact Tryd.size8)
      go_wp2_with ((with_reducible show wpList _ _ _ ({ dst := _, op := Op.load 105 _, type := _, pos := _, after := _, guard := _ } :: _) _ _); refine wpList_load_blk rfl 105 _ rfl g3 rfl _ (rowOf uc V.l) _ (hB.alloc _) Tryd.underlying105 rfl Hs3.out ?_)
      have hg0 : w.heap.size < g3 := by have := Hg3.out; omega
      have hwr := h0.lt
      have hG5 : Blk (wr.alloc (.cells (hc zero32) 29)) wr.heap.size (hc (outK V 0 ++ List.replicate (32 - 4 * 0) 0)) 29 := Blk.new _ _ _
      have hb5 : Below w.heap.size w (wr.alloc (.cells (hc zero32) 29)) := hbw.alloc hbw.size _
      have h05 := h0.alloc (.cells (hc zero32) 29)
      obtain ⟨g5, hg5⟩ : ∃ g, wr.heap.size = g := ⟨_, rfl⟩
      rw [hg5] at hG5 hwr
      simp only [hg5]
      have Hws := hid (fun k (h : k < 8) => run_index_row (P := Tryd.prog) 105 104 8 V.l k Tryd.underlying105 Tryd.underlying104 Tryd.sizeU32 h (by rw [V8.len]; exact h))
      clear hT hB h0 hbw hg5
      go_loopw [20] (fun i wo => ∃ k : Nat, k ≤ 8 ∧ i = .int .i64 k ∧ Blk wo g5 (hc (outK V k ++ List.replicate (32 - 4 * k) 0)) 29 ∧ Blk wo w.heap.size (hc zero32) 29 ∧ Below w.heap.size w wo) (fun i _ => 8 - (intOf i).toNat)
      case atStart => exact ⟨0, by omega, rfl, hG5, h05, hb5⟩
      case round =>
        obtain ⟨k, hk, rfl, hB, h0, hbw⟩ := hrel
        clear hG5 h05 hb5
        by_cases hlt : k < 8
        · have hix := Hws.out k hlt
          have hkk : (k : Int) < 8 := by omega
          have hnlt := v8_lt Hok.out k
          have w16 := IntWalk.i64_in (4 * (k : Int)) (by omega)
          have hk32 : 4 * (k : Int) ≤ 32 := by omega
          have Hcp := hid (out_copy V k hlt)
          have Hsz := hid (show 4 * k + (32 - 4 * k) ≤ (hc (outK V k ++ List.replicate (32 - 4 * k) 0)).size by rw [hc_size, List.length_append, outK_len V k hk, List.length_replicate]; omega)
          generalize V.l.getD k 0 = n at *
          go_wp2_with fail
          refine wp_region_any (by kernel_rfl) ?_
          show wpAny _ _ _ _ 7 (Array.replicate 7 false) _ _
          refine wpAny_take (i := 0) (v := .int .i64 k) rfl (by kernel_rfl) (by kernel_rfl) (by kernel_rfl) (fun _ _ _ h => h) (Or.inl ⟨by rfl, ?_⟩) ?_
          · intro w; go_simp
          refine wpAny_take (i := 1) (v := .int .i64 (4 * (k : Int))) rfl (by kernel_rfl) (by kernel_rfl) (by kernel_rfl) (fun _ _ _ h => h) (Or.inl ⟨by rfl, ?_⟩) ?_
          · intro w; go_simp
          refine wpAny_take (i := 2) (v := .slice (some ⟨g5, 4 * k, none⟩) (32 - 4 * k) (32 - 4 * k)) rfl (by kernel_rfl) (by kernel_rfl) (by kernel_rfl) (fun _ _ _ h => h) (Or.inl ⟨by rfl, ?_⟩) ?_
          · intro w; go_simp; rw [run_sliceAt_bytes 29 5 32 Tryd.underlying29 Tryd.sizeU8 g5 (4 * k) (4 * (k : Int)) (by omega) (by omega)]; rfl
          refine wpAny_take (i := 3) (v := .int .u32 n) rfl (by kernel_rfl) (by kernel_rfl) (by kernel_rfl) (fun _ _ _ h => h) (Or.inl ⟨by rfl, ?_⟩) ?_
          · intro w; go_simp
          refine wpAny_take (i := 4) (v := .int .u64 n) rfl (by kernel_rfl) (by kernel_rfl) (by kernel_rfl) (fun _ _ _ h => h) (Or.inl ⟨by rfl, ?_⟩) ?_
          · intro w; go_simp; rw [IntKind.wrap_u64, show (n : Int) % 18446744073709551616 = (n : Int) by omega]
          refine wpAny_forced (i := 5) (by kernel_rfl) rfl ?_
          go_wp2_with (go_at_call 73; refine (put_any n 4 _ (by omega) (by omega) (by omega)).mono ?_; rintro e w4 ⟨rfl, hb4⟩)
          have HB4 := hid (hB.drew.later hb4)
          refine wpAny_forced (i := 6) (by kernel_rfl) rfl ?_
          refine wpList_copy_string rfl _ _ 108 9 5 rfl g5 (4 * k) (32 - 4 * k) (32 - 4 * k) rfl _ rfl _ 29 Tryd.underlying108 Tryd.sizeU8 HB4.out Hsz.out _ Hcp.out ?_
          refine wpList_nil ?_
          refine wpAny_done (by kernel_rfl) ?_ _
          go_wp2
          go_roundw
          case rel =>
            refine ⟨k + 1, by omega, by go_num, HB4.out.setRow, ((h0.drew.later hb4).setRow_ne (by omega)), ?_⟩
            exact (hbw.drew.trans (hb4.mono hbw.size)).setRow (by omega) _
          case measure => simp [intOf]; omega
        · obtain rfl : k = 8 := by omega
          rw [outK_all, show 32 - 4 * 8 = 0 from rfl, List.replicate_zero, List.append_nil] at hB
          have Hh := hid (show (Tryd.prog.info? 29).map (·.size) = some (hc (outL V)).size by rw [hc_size, outL_len]; exact Tryd.sizeHash)
          have Hl9 := hid (show (hc (outL V)).size = (hc zero32).size by rw [hc_size, outL_len]; rfl)
          have HB := hid hB; clear hB
          go_wp2_with (first
            | ((with_reducible show wpList _ _ _ ({ dst := _, op := Op.load 29 _, type := _, pos := _, after := _, guard := _ } :: _) _ _); refine wpList_load_blk rfl 29 _ rfl g5 rfl _ (hc (outL V)) _ HB.out Tryd.underlying29 rfl Hh.out ?_)
            | ((with_reducible show wpList _ _ _ ({ dst := _, op := Op.store _ _ _, type := _, pos := _, after := _, guard := _ } :: _) _ _); refine wpList_store_blk rfl 29 _ _ rfl w.heap.size rfl (hc (outL V)) rfl _ _ h0 Hl9.out Hh.out (hc_row_one _) ?_))
          have HB2 := h0.setRow (cs' := hc (outL V))
          refine bodyPost_ret (results_cell_row rfl _ _ w.heap.size 29 _ (0, 0) _ rfl HB2 Tryd.underlying29 rfl Hh.out) rfl ⟨by rw [Hsum2.out], ?_⟩
          exact hbw.setRow (Nat.le_refl _) _
end Go.Proofs.YtbpjlancjdbehaaDoor
