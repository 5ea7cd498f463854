/- speculumref03.Num, Text, Unhash (for seats without the rest of codec) -/
import Derived.Test.YtchpoggegdocpaaDoorLamCodec
set_option maxRecDepth 100000
namespace Go.Proofs.YtchpoggegdocpaaDoor
open Go.RowKit Go.Spec
theorem run_string_lit {w : World} (x : Int) (b : UInt8) (hx : Value.int .u8 x = bcell b) : (convert 35 9 (.slice (some ⟨w.heap.size, 0, none⟩) 1 1)).run Tryd.prog (w.alloc (.cells #[.int .u8 x] 5)) = .ok (sv [b]) (w.alloc (.cells #[.int .u8 x] 5)) := by
  rw [hx]
  exact run_string_own (P := Tryd.prog) (base := w.heap.size) (n := 1) (l := [b]) 35 9 5 Tryd.underlying35 Tryd.underlying5 Tryd.underlying9 (ownsRow_lit (w := w) (base := w.heap.size) (e := 5) (bcell b) (Nat.le_refl _))
theorem run_string_one (x : Int) (b : UInt8) (hx : Value.int .u8 x = bcell b) (W : World) (o c : Nat) (h : W.cell? ⟨o, 0, none⟩ = some (.int .u8 x)) :
    (convert 35 9 (.slice (some ⟨o, 0, none⟩) 1 c)).run Tryd.prog W = .ok (sv [b]) W := by
  refine run_convert_bytes_back W 35 9 5 ⟨o, 0, none⟩ c [b] Tryd.underlying35 Tryd.underlying5 Tryd.underlying9 ?_
  intro j hj
  have : j = 0 := by simpa using hj
  subst this
  rw [Addr.add_lit]
  simp only [Nat.add_zero, List.getElem_cons_zero]
  rw [h, hx]; rfl
set_option maxHeartbeats 1000000 in
theorem rahead_any (f : Nat) : ∀ (n : Nat) (x : Int) (w : World), x = n → 0 < n → n < 128 ^ (f + 1) → f ≤ 8 →
    Calls Tryd.prog 63 #[.int .u64 x] w fun e w' => e = .returned (sv (hiN n)) ∧ Below w.heap.size w w' := by
  induction f with
  | zero =>
    rintro n x w rfl h0 h1 hf
    have Hfin := hid (show hiN n = [hib n] by rw [hiN_pos n h0, show n / 128 = 0 by omega, hiN_zero]; rfl)
    have h2 : n < 128 := by omega
    have hcv := run_string_lit (w := w) ((n : Int) % 128 + 128) (hib n) (hib_cell n).symm
    clear h1
    go_enter Tryd.func63, Tryd.ntmps63
    go_wp2_with fail
    go_ret
    exact ⟨by rw [Hfin.out]; rfl, (Below.refl _ _).alloc (Nat.le_refl _) _⟩
  | succ f ih =>
    rintro n x w rfl h0 h1 hf
    by_cases h2 : n < 128
    · exact ih n _ w rfl h0 (Nat.lt_of_lt_of_le h2 (by rw [Nat.pow_succ]; exact Nat.le_mul_of_pos_left _ (Nat.pow_pos (by omega)))) (by omega)
    · have Hfin := hid (show hiN n = hiN (n / 128) ++ [hib n] from hiN_pos n h0)
      have h1' : n < 128 ^ 10 := Nat.lt_of_lt_of_le h1 (Nat.pow_le_pow_right (by omega) (by omega))
      have hlen := hiN_len (n / 128) 9 (by omega)
      have hcv := run_string_lit (w := w) ((n : Int) % 128 + 128) (hib n) (hib_cell n).symm
      have hd : decide ((n : Int) < 128) = false := by simp; omega
      have h3 : n / 128 < 128 ^ (f + 1) := by rw [Nat.pow_succ] at h1; omega
      have Hih := hid ih
      have H3 := hid h3
      have hq : IntKind.u64.wrap ((n : Int) / 128) = (n : Int) / 128 := by rw [IntKind.wrap_u64]; omega
      clear h1 h3 ih h1'
      have h128 : 128 ≤ n := by omega
      clear h2
      go_enter Tryd.func63, Tryd.ntmps63
      go_wp2_with (go_at_call 63; go_must (refine (Hih.out (n / 128) _ _ (by omega) (by omega) H3.out (by omega)).mono ?_); rintro e w1 ⟨rfl, hb⟩)
      go_ret
      exact ⟨by rw [Hfin.out]; rfl, ((Below.refl _ _).alloc (Nat.le_refl _) _).trans (hb.mono (by simp))⟩
set_option maxHeartbeats 1000000 in
theorem rnum_any (n : Nat) (w : World) (hn : n < 18446744073709551616) :
    Calls Tryd.prog 57 #[.int .u64 n] w fun e w' => e = .returned (sv (numL n)) ∧ Below w.heap.size w w' := by
  by_cases h : n < 128
  · have Hfin := hid (show numL n = [lob n] by rw [numL, show n / 128 = 0 by omega, hiN_zero]; rfl)
    have hcv := run_string_lit (w := w) (n : Int) (lob n) (by rw [lob_cell]; congr 1; omega)
    clear hn
    go_enter Tryd.func57, Tryd.ntmps57
    go_wp2_with fail
    go_ret
    exact ⟨by rw [Hfin.out]; rfl, (Below.refl _ _).alloc (Nat.le_refl _) _⟩
  · have Hfin := hid (show numL n = hiN (n / 128) ++ [lob n] from rfl)
    have hlen := hiN_len (n / 128) 9 (by omega)
    have H1 := hid (show n / 128 < 128 ^ (8 + 1) by omega)
    have hd : decide ((n : Int) < 128) = false := by simp; omega
    have h128 : 128 ≤ n := by omega
    have hcv := run_string_one ((n : Int) % 128) (lob n) (lob_cell n).symm
    have hq : IntKind.u64.wrap ((n : Int) / 128) = (n : Int) / 128 := by rw [IntKind.wrap_u64]; omega
    have hq4 : (n : Int).tmod 128 = (n : Int) % 128 := Int.tmod_eq_emod_of_nonneg (by omega)
    have hq2 : IntKind.u64.wrap ((n : Int) % 128) = (n : Int) % 128 := by rw [IntKind.wrap_u64]; omega
    have hq3 : IntKind.u8.wrap ((n : Int) % 128) = (n : Int) % 128 := by rw [IntKind.wrap_u8]; omega
    clear h hn
    go_enter Tryd.func57, Tryd.ntmps57
    go_wp2_with fail
    go_region_with (go_at_call 63; refine (rahead_any 8 (n / 128) _ _ (by omega) (by omega) H1.out (by omega)).mono ?_; rintro e w1 ⟨rfl, hb⟩; obtain ⟨hc, hf⟩ := bcells hb)
    all_goals go_wp2
    all_goals go_ret
    all_goals refine ⟨by rw [Hfin.out]; rfl, ?_⟩
    all_goals first
      | exact ((Below.refl _ w).drew.trans hb).alloc hb.size _
      | exact ((Below.refl _ w).drew.alloc (Nat.le_refl _) _).trans (hb.mono (by simp))
set_option maxHeartbeats 400000 in
theorem rtext_any (l : List UInt8) (w : World) (hn : l.length ≤ 1000000000) :
    Calls Tryd.prog 44 #[sv l] w fun e w' => e = .returned (sv (numL l.length ++ l)) ∧ Below w.heap.size w w' := by
  have hlen := numL_len l.length (by omega)
  go_enter Tryd.func44, Tryd.ntmps44
  go_wp2_with (go_at_call 57; refine (rnum_any _ _ (by omega)).mono ?_; rintro e w1 ⟨rfl, hb⟩)
  go_ret
  exact ⟨rfl, hb⟩
set_option maxHeartbeats 1000000 in
theorem runhash_no (l : List UInt8) (w : World) (hlt : l.length < 32) :
    Calls Tryd.prog 47 #[sv l] w fun e w' => e = .returned (.tuple #[hv zero32, sv [], .bool false]) ∧ Below w.heap.size w w' := by
  have hd : decide ((l.length : Int) < 32) = true := by simp; omega
  go_enter Tryd.func47, Tryd.ntmps47
  go_wp2_with (first
    | (refine wpList_load_row rfl 42 _ rfl (w.heap.size + 1) rfl 42 (hc zero32) (0, 0) _ (heap_alloc2_new w _ _) Tryd.underlying42 rfl Tryd.sizeHash ?_)
    | (refine wpList_store_hc rfl 42 _ _ rfl w.heap.size rfl zero32 rfl _ 42 (heap_alloc2_old w _ _) rfl Tryd.sizeHash ?_))
  refine bodyPost_ret (results_cell3 rfl _ w.heap.size 42 (hc zero32) (0, 0) _ rfl (setRow_get (heap_alloc2_old w _ _)) Tryd.underlying42 rfl Tryd.sizeHash) rfl ⟨rfl, ?_⟩
  exact ((((Below.refl _ _).alloc (Nat.le_refl _) _).alloc (by simp) _).setRow (Nat.le_refl _) _)
theorem set_zero (A : List UInt8) (x : UInt8) (m : Nat) : (hc (A ++ List.replicate (m + 1) 0)).setIfInBounds A.length (bcell x) = hc (A ++ [x] ++ List.replicate m 0) := by
  apply Array.toList_inj.1
  rw [Array.toList_setIfInBounds, hc_toList, hc_toList, List.replicate_succ]
  simp only [List.map_append, List.map_cons]
  rw [List.set_append_right _ _ (by simp)]
  simp
set_option maxHeartbeats 1000000 in
theorem runhash_yes (l : List UInt8) (w : World) (hlt : 32 ≤ l.length) (hn : l.length ≤ 9223372036854775807) :
    Calls Tryd.prog 47 #[sv l] w fun e w' => e = .returned (.tuple #[hv (l.take 32), sv (l.drop 32), .bool true]) ∧ Below w.heap.size w w' := by
  have hd : decide ((l.length : Int) < 32) = false := by simp; omega
  go_enter Tryd.func47, Tryd.ntmps47
  go_wp2_with fail
  go_loopw [6] (fun i wr => ∃ k : Nat, k ≤ 32 ∧ i = .int .i64 k ∧ wr.heap[w.heap.size]? = some (.cells (hc zero32) 42 (0, 0)) ∧ wr.heap[w.heap.size + 1]? = some (.cells (hc (l.take k ++ List.replicate (32 - k) 0)) 42 (0, 0)) ∧ Below w.heap.size w wr)
    (fun i _ => 32 - (intOf i).toNat)
  case atStart => exact ⟨0, by omega, rfl, heap_alloc2_old w _ _, heap_alloc2_new w _ _, ((Below.refl _ _).alloc (Nat.le_refl _) _).alloc (by simp) _⟩
  case round =>
    obtain ⟨k, hk, rfl, hg1, hg2, hb⟩ := hrel
    have Hg1 := hid hg1; have Hg2 := hid hg2
    clear hg1 hg2
    by_cases hk2 : k < 32
    · have hkl : k < l.length := by omega
      obtain ⟨x, hx⟩ : ∃ x, l[k] = x := ⟨_, rfl⟩
      have hcell : wr.cell? ⟨w.heap.size + 1, k, none⟩ = some (.int .u8 ((0 : UInt8).toNat : Int)) := by
        rw [cell_of_row wr _ _ _ _ _ Hg2.out, hc_get _ k (by simp; omega)]
        rw [List.getElem_append_right (by simp; omega)]
        simp; rfl
      have hfz : wr.frozen? ⟨w.heap.size + 1, k, none⟩ = false := frozen_of_row wr _ _ _ _ Hg2.out
      have Hx := hid hx
      go_wp2
      go_roundw
      case rel =>
        refine ⟨k + 1, by omega, by go_num, ?_, ?_, hb.setCell (by simp) _⟩
        · rw [heap_setCell_other _ _ _ _ (by simp)]; exact Hg1.out
        · rw [heap_setCell_same _ _ _ _ _ _ Hg2.out]
          have hs := set_zero (l.take k) x (31 - k)
          rw [show 31 - k + 1 = 32 - k by omega, List.length_take, Nat.min_eq_left (by omega)] at hs
          have htk : l.take (k + 1) = l.take k ++ [x] := by rw [List.take_succ_eq_append_getElem hkl, Hx.out]
          rw [htk, show 32 - (k + 1) = 31 - k by omega, ← hs]
          rfl
      case measure => simp [intOf]; omega
    · have hke : k = 32 := by omega
      subst hke
      have hL : (l.take 32).length = 32 := by simp; omega
      have hg3 := Hg2.out
      rw [Nat.sub_self, List.replicate_zero, List.append_nil] at hg3
      have Hg3 := hid hg3
      have HL := hid hL
      have Hsz := hid (show (Tryd.prog.info? 42).map (·.size) = some (l.take 32).length by rw [hL]; exact Tryd.sizeHash)
      have Hsz2 := hid (show (Tryd.prog.info? 42).map (·.size) = some (hc (l.take 32)).size by rw [hc_size, hL]; exact Tryd.sizeHash)
      have Hdr := hid (show sv (l.drop 32) = sv (l.drop 32) from rfl)
      clear hg3 hL
      generalize hLL : l.take 32 = L at *
      have HLL := hid hLL
      clear hLL
      go_wp2_with fail
      refine wp_region_any (by kernel_rfl) ?_
      show wpAny _ _ _ _ 6 (Array.replicate 6 false) _ _
      refine wpAny_take (i := 1) (v := sv l) rfl (by kernel_rfl) (by kernel_rfl) (by kernel_rfl) (fun _ _ _ h => h) (Or.inl ⟨by rfl, ?_⟩) ?_
      · intro w; go_simp
      refine wpAny_take (i := 2) (v := sv (l.drop 32)) rfl (by kernel_rfl) (by kernel_rfl) (by kernel_rfl) (fun _ _ _ h => h) (Or.inl ⟨by rfl, ?_⟩) ?_
      · intro w
        go_simp
        intro h
        exfalso
        omega
      refine wpAny_forced (i := 0) (by kernel_rfl) rfl ?_
      refine wpList_load_row rfl 42 _ rfl (w.heap.size + 1) rfl 42 (hc L) (0, 0) _ Hg3.out Tryd.underlying42 rfl Hsz2.out ?_
      refine wpList_nil ?_
      refine wpAny_forced (i := 3) (by kernel_rfl) rfl ?_
      refine wpList_store_hc rfl 42 _ _ rfl w.heap.size rfl L rfl _ 42 Hg1.out (by rw [HL.out]; rfl) Hsz.out ?_
      refine wpList_nil ?_
      have Hg4 := hid (setRow_get (cs := hc L) Hg1.out)
      refine wpAny_forced (i := 4) (by kernel_rfl) rfl ?_
      go_wp2_with fail
      refine wpAny_forced (i := 5) (by kernel_rfl) rfl ?_
      go_wp2_with fail
      refine wpAny_done (by kernel_rfl) ?_ _
      go_wp2
      refine bodyPost_ret (results_cell3 rfl _ w.heap.size 42 (hc L) (0, 0) _ rfl Hg4.out Tryd.underlying42 rfl Hsz2.out) rfl ⟨by rw [HLL.out]; rfl, ?_⟩
      exact hb.drew.setRow (Nat.le_refl _) _
end Go.Proofs.YtchpoggegdocpaaDoor
