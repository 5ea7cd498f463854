/- (t *Tiles) root: the root of a segment of the leaves, by the full trees -/
import Derived.Test.YtbpjlancjdbehaaDoorQPathProg
import Derived.Test.YtbpjlancjdbehaaDoorQTileMap
import Derived.Test.YtbpjlancjdbehaaDoorQTreeLaw
import Derived.Test.YtbpjlancjdbehaaDoorQTreeNode
import Derived.Test.YtbpjlancjdbehaaDoorQTreeRootC

set_option maxRecDepth 100000
namespace Go.Proofs.YtbpjlancjdbehaaDoor
open Go.RowKit Go.Spec
theorem pow_mono {i j : Nat} (h : i ≤ j) : 2 ^ i ≤ 2 ^ j := Nat.pow_le_pow_right (by omega) h
/-- the least power of two that is not less -/
theorem least_pow (n : Nat) (h : 1 ≤ n) : ∃ K, n ≤ 2 ^ K ∧ ∀ j, j < K → 2 ^ j < n := by
  by_cases h1 : n = 1
  · subst h1; exact ⟨0, by simp, fun j hj => by omega⟩
  · obtain ⟨J, _, h2, h3⟩ := split_pow n (by omega)
    refine ⟨J + 1, by rw [Nat.pow_succ]; omega, fun j hj => ?_⟩
    have := pow_mono (show j ≤ J by omega)
    omega
def TRootAt (g b : Nat) (l : List (List UInt8)) (n : Nat) : Prop := ∀ (from_ to_ : Nat) (w : World), to_ - from_ ≤ n → from_ ≤ to_ → to_ ≤ l.length → lined from_ to_ → TilesAt w g b l → ShaG w →
    Calls Tryd.prog 44 #[.pointer (some ⟨g, 0, none⟩), .int .i64 (from_ : Int), .int .i64 (to_ : Int)] w fun e w' => e = .returned (hv (rootL (seg l from_ to_))) ∧ Below w.heap.size w w'
set_option maxHeartbeats 2000000 in
theorem troot_zero (g b : Nat) (l : List (List UInt8)) (from_ : Nat) (w : World) (hl : from_ ≤ 4096) (hG : ShaG w) :
    Calls Tryd.prog 44 #[.pointer (some ⟨g, 0, none⟩), .int .i64 (from_ : Int), .int .i64 (from_ : Int)] w fun e w' => e = .returned (hv (rootL (seg l from_ from_))) ∧ Below w.heap.size w w' := by
  have hs : seg l from_ from_ = [] := by
    unfold seg; exact List.drop_eq_nil_of_le (by rw [List.length_take]; omega)
  rw [hs]
  have hS := rootL_len _ [] (Nat.le_refl _) (by simp)
  have hw1 : Below w.heap.size w (w.alloc (.cells (hc zero32) 29)) := (Below.refl _ w).alloc (Nat.le_refl _) _
  have HG := hid (hG.later hw1)
  have HR := hid (fun w0 h0 => root_any [] (.slice none 0 0) w0 (by simp) h0 (slNil w0))
  have hZ : Blk (w.alloc (.cells (hc zero32) 29)) w.heap.size (hc zero32) 29 := Blk.new _ _ _
  generalize rootL [] = S at *
  have Hs := hid (show (Tryd.prog.info? 29).map (·.size) = some (hc S).size by rw [hc_size, hS]; exact Tryd.sizeHash)
  have Hz := hid (show (hc S).size = (hc zero32).size by rw [hc_size, hS]; rfl)
  have d0 : ((from_ : Int) - (from_ : Int)) = 0 := by omega
  clear hG hS hs
  go_enter Tryd.func44, Tryd.ntmps44
  go_wp2_with (first
    | (go_at_call 25; refine (HR.out _ HG.out).mono ?_; rintro e w1 ⟨rfl, hb1⟩)
    | ((with_reducible show wpList _ _ _ ({ dst := _, op := Op.store _ _ _, type := _, pos := _, after := _, guard := _ } :: _) _ _); refine wpList_store_blk rfl 29 _ _ rfl w.heap.size rfl (hc S) rfl _ _ (hZ.later hb1) Hz.out Hs.out (hc_row_one _) ?_))
  refine bodyPost_ret (results_cell_row rfl _ _ w.heap.size 29 _ (0, 0) _ rfl ((hZ.later hb1).setRow) Tryd.underlying29 rfl Hs.out) rfl ⟨rfl, ?_⟩
  exact (bth hw1 hb1).setRow (by omega) _
set_option maxHeartbeats 4000000 in
theorem troot_some (g b : Nat) (l : List (List UInt8)) (N : Nat) (ih : TRootAt g b l N) (from_ to_ : Nat) (w : World) (hN : to_ - from_ ≤ N + 1) (h0 : from_ < to_) (hto : to_ ≤ l.length) (hal : lined from_ to_) (hT : TilesAt w g b l) (hG : ShaG w) :
    Calls Tryd.prog 44 #[.pointer (some ⟨g, 0, none⟩), .int .i64 (from_ : Int), .int .i64 (to_ : Int)] w fun e w' => e = .returned (hv (rootL (seg l from_ to_))) ∧ Below w.heap.size w w' := by
  obtain ⟨K, hK1, hK2⟩ := least_pow (to_ - from_) (by omega)
  have hl4 := hT.len
  have hK12 : K ≤ 12 := by
    rcases Nat.lt_or_ge 12 K with h | h
    · have := hK2 12 h
      have h4 : (2 : Nat) ^ 12 = 4096 := rfl
      omega
    · exact h
  have hS := rootL_len _ (seg l from_ to_) (Nat.le_refl _) (seg_32 hT.r32 _ _)
  have hw1 : Below w.heap.size w (w.alloc (.cells (hc zero32) 29)) := (Below.refl _ w).alloc (Nat.le_refl _) _
  have HG := hid (hG.later hw1)
  have HT := hid (hT.later hw1)
  have hZ : Blk (w.alloc (.cells (hc zero32) 29)) w.heap.size (hc zero32) 29 := Blk.new _ _ _
  have Hs := hid (show (Tryd.prog.info? 29).map (·.size) = some (hc (rootL (seg l from_ to_))).size by rw [hc_size, hS]; exact Tryd.sizeHash)
  have Hz := hid (show (hc (rootL (seg l from_ to_))).size = (hc zero32).size by rw [hc_size, hS]; rfl)
  obtain ⟨n, hn⟩ : ∃ n, to_ - from_ = n := ⟨_, rfl⟩
  have en : (to_ : Int) - (from_ : Int) = (n : Int) := by omega
  have dn : ((n : Int) == 0) = false := beq_eq_false_iff_ne.mpr (by omega)
  have hn1 : 1 ≤ n := by omega
  have hn4 : n ≤ 4096 := by omega
  have hr := rootL_len
  have Hn := hid hn
  rw [hn] at hK1 hK2 hN
  have HK1 := hid hK1; have HK2 := hid hK2; have Hal := hid hal; have Hto := hid hto; have HN := hid hN
  have H0 := hid h0; have Hr32 := hid hT.r32; have Hl4 := hid hl4
  clear hr hn hK1 hK2 hal hto hN hT hG h0 hS hl4
  go_enter Tryd.func44, Tryd.ntmps44
  go_wp2_with fail
  go_loop [8, 9] (fun lv sz => ∃ k : Nat, k ≤ K ∧ lv = .int .i64 (k : Int) ∧ sz = .int .i64 ((2 ^ k : Nat) : Int)) (fun lv _ => K - (intOf lv).toNat)
  case atStart => exact ⟨0, by omega, rfl, by simp⟩
  case round =>
    obtain ⟨k, hk, rfl, rfl⟩ := hrel
    have hpos : 0 < 2 ^ k := Nat.pow_pos (by omega)
    by_cases hlt : k < K
    · have hp := HK2.out k hlt
      have Hp2 := hid (show 2 ^ (k + 1) = 2 * 2 ^ k by rw [Nat.pow_succ]; omega)
      generalize 2 ^ k = p at *
      have hd : decide (p < n) = true := by simpa using hp
      go_wp2_with fail
      go_round
      case rel => exact ⟨k + 1, by omega, by go_num, by rw [Hp2.out]; go_num⟩
      case measure => simp [intOf]; omega
    · obtain rfl : k = K := by omega
      have hge := HK1.out
      have hdd := lined_dvd Hal.out (k := k) (by rw [Hn.out]; exact hge) (by rw [Hn.out]; exact HK2.out)
      have hd : decide (2 ^ k < n) = false := by simp; omega
      by_cases heq : 2 ^ k = n
      · have hfull := seg_full l from_ k hdd (by have := Hn.out; have := Hto.out; omega)
        have hto2 : from_ + 2 ^ k = to_ := by have := Hn.out; have := H0.out; omega
        rw [hto2] at hfull
        obtain ⟨q, hq⟩ : ∃ q, from_ / 2 ^ k = q := ⟨_, rfl⟩
        have hqe : Int.tdiv (from_ : Int) ((2 ^ k : Nat) : Int) = (q : Int) := by rw [← hq, Int.tdiv_eq_ediv_of_nonneg (by omega)]; rfl
        rw [hq] at hfull
        have hz := tileZ_nat l k q
        rw [hfull] at hz
        have hq4 : q ≤ 4096 := by
          have := Nat.div_le_self from_ (2 ^ k)
          have := Hl4.out; have := Hto.out; have := H0.out; omega
        generalize 2 ^ k = p at *
        have hd2 : ((p : Int) == (n : Int)) = true := by rw [beq_iff_eq]; omega
        have hpn : ¬ p = 0 := by omega
        have hwq : IntKind.i64.wrap (q : Int) = (q : Int) := IntWalk.i64_in _ (by omega)
        have Hq := hid hq; have Hz2 := hid hz
        clear hfull hdd hge hz hto2 heq hq
        go_wp2_with fail
        refine wp_region_tail 10 (by kernel_rfl) (by kernel_rfl) ?_
        intro w2 he2 hb2
        simp only [List.take_succ_cons, List.take_zero, List.drop_succ_cons, List.drop_zero]
        have HT2 := hid (HT.out.kept (w' := w2) (by rw [he2]; rfl) (by rw [he2]; rfl))
        have c0 := HT2.out.c0
        obtain ⟨m, _, hm⟩ := HT2.out.map
        have HM := hid hm
        have hZ2 := hid (hZ.heap (w' := w2) he2)
        have HB2 := hid (bth hw1 hb2)
        clear hm he2 hb2 HT hZ
        repeat (first
          | ((with_reducible show wpStill _ _ _ _ ({ dst := _, op := Op.lookup _ _ _ _, type := _, pos := _, after := _, guard := _ } :: _) _); refine wpStill_tile_look rfl _ _ _ rfl rfl rfl HM.out (k : Int) (q : Int) rfl (by unfold inI; omega) (by unfold inI; omega) _ Hz2.out ?_)
          | still_step)
        refine wpStill_nil ?_
        go_wp2_with ((with_reducible show wpList _ _ _ ({ dst := _, op := Op.store _ _ _, type := _, pos := _, after := _, guard := _ } :: _) _ _); refine wpList_store_blk rfl 29 _ _ rfl w.heap.size rfl (hc (rootL (seg l from_ to_))) rfl _ _ hZ2.out Hz.out Hs.out (hc_row_one _) ?_)
        refine bodyPost_ret (results_cell_row rfl _ _ w.heap.size 29 _ (0, 0) _ rfl (hZ2.out.setRow) Tryd.underlying29 rfl Hs.out) rfl ⟨rfl, ?_⟩
        exact HB2.out.setRow (by omega) _
      · obtain ⟨m, rfl⟩ : ∃ m, k = m + 1 := ⟨k - 1, by
          rcases Nat.eq_zero_or_pos k with h | h
          · subst h
            have h1 : (2 : Nat) ^ 0 = 1 := rfl
            omega
          · omega⟩
        have hm1 := HK2.out m (by omega)
        have hp2 : 2 ^ (m + 1) = 2 * 2 ^ m := by rw [Nat.pow_succ]; omega
        have hsp : splitN n = 2 ^ m := splitN_eq m n hm1 (by omega)
        have hsr := seg_root l from_ to_ Hto.out (by have := Hn.out; omega)
        have hls := lined_split Hal.out (by have := Hn.out; omega)
        rw [Hn.out, hsp] at hsr hls
        generalize 2 ^ m = h at *
        generalize 2 ^ (m + 1) = p at *
        obtain ⟨f2, hf2⟩ : ∃ f2, from_ + h = f2 := ⟨_, rfl⟩
        rw [hf2] at hsr hls
        have hlt2 := H0.out
        have hto3 := Hto.out
        have hl44 := Hl4.out
        have hnn := Hn.out
        have hNN := HN.out
        have e1 : (p : Int) / 2 = (h : Int) := by omega
        have e2 : (from_ : Int) + (h : Int) = (f2 : Int) := by omega
        have hd2 : ((p : Int) == (n : Int)) = false := by rw [beq_eq_false_iff_ne]; omega
        have I1 := hid (fun w0 hT0 hG0 => ih from_ f2 w0 (by omega) (by omega) (by omega) hls.1 hT0 hG0)
        have I2 := hid (fun w0 hT0 hG0 => ih f2 to_ w0 (by omega) (by omega) (by omega) hls.2 hT0 hG0)
        have L1 := rootL_len _ (seg l from_ f2) (Nat.le_refl _) (seg_32 Hr32.out _ _)
        have L2 := rootL_len _ (seg l f2 to_) (Nat.le_refl _) (seg_32 Hr32.out _ _)
        rw [hsr] at Hs Hz
        generalize rootL (seg l from_ f2) = A at *
        generalize rootL (seg l f2 to_) = B at *
        have ND := hid (fun w0 h0 => node_any A B w0 L1 L2 h0)
        have hpp : p ≤ 8192 := by omega
        have hf24 : f2 ≤ 4096 := by omega
        have hto4 : to_ ≤ 4096 := by omega
        have hwf : wrap64 (f2 : Int) = (f2 : Int) := by unfold wrap64; omega
        have Hsr := hid hsr
        clear hm1 hp2 hsp hsr hls hdd hge hf2 hlt2 hto3 hnn hNN L1 L2 heq ih hlt hk
        show Code.wp _ _ _ _ (w.alloc (.cells (hc zero32) 29))
        generalize hw0 : w.alloc (.cells (hc zero32) 29) = w0 at *
        clear hw0
        go_wp2_with (first
          | (go_at_call 40; refine (ND.out _ (HG.out.later HB2.out)).mono ?_; rintro e w4 ⟨rfl, hb4⟩)
          | (go_at_call 44; first
              | ((with_reducible refine (I1.out _ HT.out HG.out).mono ?_); rintro e w2 ⟨rfl, hb2⟩; have HB1 := hid hb2; clear hb2)
              | ((with_reducible refine (I2.out _ (HT.out.later HB1.out) (HG.out.later HB1.out)).mono ?_); rintro e w3 ⟨rfl, hb3⟩; have HB2 := hid (bth HB1.out hb3); clear hb3))
          | ((with_reducible show wpList _ _ _ ({ dst := _, op := Op.store _ _ _, type := _, pos := _, after := _, guard := _ } :: _) _ _); refine wpList_store_blk rfl 29 _ _ rfl w.heap.size rfl (hc (nodeL A B)) rfl _ _ ((hZ.later HB2.out).later hb4) Hz.out Hs.out (hc_row_one _) ?_))
        refine bodyPost_ret (results_cell_row rfl _ _ w.heap.size 29 _ (0, 0) _ rfl (((hZ.later HB2.out).later hb4).setRow) Tryd.underlying29 rfl Hs.out) rfl ⟨by rw [Hsr.out], ?_⟩
        exact (bth hw1 (bth HB2.out hb4)).setRow (by omega) _
theorem troot_at (g b : Nat) (l : List (List UInt8)) : ∀ n, TRootAt g b l n
  | 0 => fun from_ to_ w hn h1 h2 _ hT hG => by
    obtain rfl : from_ = to_ := by omega
    exact troot_zero g b l from_ w (by have := hT.len; omega) hG
  | n + 1 => fun from_ to_ w hn h1 h2 hal hT hG => by
    by_cases h : from_ = to_
    · subst h
      exact troot_zero g b l from_ w (by have := hT.len; omega) hG
    · exact troot_some g b l n (troot_at g b l n) from_ to_ w hn (by omega) h2 hal hT hG
theorem troot_any (g b : Nat) (l : List (List UInt8)) (from_ to_ : Nat) (w : World) (h1 : from_ ≤ to_) (h2 : to_ ≤ l.length) (hal : lined from_ to_) (hT : TilesAt w g b l) (hG : ShaG w) :
    Calls Tryd.prog 44 #[.pointer (some ⟨g, 0, none⟩), .int .i64 (from_ : Int), .int .i64 (to_ : Int)] w fun e w' => e = .returned (hv (rootL (seg l from_ to_))) ∧ Below w.heap.size w w' :=
  troot_at g b l (to_ - from_) from_ to_ w (Nat.le_refl _) h1 h2 hal hT hG
end Go.Proofs.YtbpjlancjdbehaaDoor
