/- the law TilesNone: the walk -/
import Derived.Test.YtbpjlancjdbehaaDoorQTileNone
import Derived.Test.YtbpjlancjdbehaaDoorQTiled

set_option maxRecDepth 100000
namespace Go.Proofs.YtbpjlancjdbehaaDoor
open Go.RowKit Go.Spec
/-- what lives through a round -/
structure Nl (w : World) (p : Value) (x : List UInt8) (a b : Int) (wr : World) : Prop where
  n : NoT wr p
  x : Blk wr w.heap.size (hc x) 29
  i : Blk wr (w.heap.size + 1) #[.int .i64 a, .int .i64 b] 23
  be : Below w.heap.size w wr
theorem Nl.later {w w' w'' : World} {p : Value} {x : List UInt8} {a b : Int} (h : Nl w p x a b w') (hb : Below w'.heap.size w' w'') : Nl w p x a b w'' :=
  ⟨h.n.later hb, h.x.later hb, h.i.later hb, bth h.be hb⟩
theorem Nl.c0 {w w' : World} {p : Value} {x : List UInt8} {a b : Int} (h : Nl w p x a b w') : w'.cell? ⟨w.heap.size + 1, 0, none⟩ = some (.int .i64 a) := h.i.cell 0
theorem Nl.c1 {w w' : World} {p : Value} {x : List UInt8} {a b : Int} (h : Nl w p x a b w') : w'.cell? ⟨w.heap.size + 1, 1, none⟩ = some (.int .i64 b) := h.i.cell 1
theorem Blk.keepZ {w' : World} {g : Nat} {x : List UInt8} (h : Blk w' g (hc x) 29) : ∀ j z, (x.map bcell)[j]? = some z → w'.cell? ((⟨g, 0, none⟩ : Addr).add j) = some z := fun j z hz => h.cells j z (by rw [hc_toList]; exact hz)
set_option maxHeartbeats 8000000 in
theorem tilesNone_law (x : List UInt8) (a b : Int) (w : World) (hx : x.length = 32) (hG : ShaG w) :
    Calls Tryd.prog 5 #[hv x, .agg #[.int .i64 a, .int .i64 b]] w fun e w' => e = .returned (.bool true) ∧ Below w.heap.size w w' := by
  have HG := hid hG; clear hG
  have TD := hid (tiled_any)
  obtain ⟨g, hg⟩ : ∃ g, w.heap.size = g := ⟨_, rfl⟩
  have HL1 := hid (show Blk ((w.alloc (.cells (hc x) 29)).alloc (.cells #[.int .i64 a, .int .i64 b] 23)) w.heap.size (hc x) 29 from (Blk.new _ _ _).later ((Below.refl _ _).alloc (Nat.le_refl _) _))
  have HL2 := hid (show Blk ((w.alloc (.cells (hc x) 29)).alloc (.cells #[.int .i64 a, .int .i64 b] 23)) (w.heap.size + 1) #[.int .i64 a, .int .i64 b] 23 from Blk.new' _ _ _ (by simp))
  have HB := hid (show Below w.heap.size w ((w.alloc (.cells (hc x) 29)).alloc (.cells #[.int .i64 a, .int .i64 b] 23)) from ((Below.refl _ w).alloc (Nat.le_refl _) _).alloc (by simp) _)
  have Hsx2 := hid (show (Tryd.prog.info? 29).map (·.size) = some x.length by rw [hx]; exact Tryd.sizeHash)
  have hs3 := Tryd.sizeHash
  have hs5 := Tryd.sizeU8
  have hge := Tryd.guardHash3
  have HZ := hid (show zero32.length = 32 by rfl)
  have SZ := hid (show (Tryd.prog.info? 29).map (·.size) = some zero32.length by kernel_rfl)
  have NN := hid (fun p i n w h => noT_node p i n w h)
  have NR := hid (fun p n w h => noT_root p n w h)
  have BZ := hid (fun w' => Tryd.zeroHash w')
  have ZA := hid (fun w : World => (rfl : w.alloc (.cells (hc zero32) 29) = w.alloc (.cells (hc zero32) 29)))
  clear hx ZA hg
  go_enter Tryd.func5, Tryd.ntmps5
  go_wp2_with fail
  go_loopw [5, 6] (fun pv iv wr => ∃ (k : Nat) (p : Value), k ≤ 2 ∧ iv = .int .i64 (k : Int) ∧ p = pv ∧ Nl w p x a b wr) (fun _ iv _ => 2 - (intOf iv).toNat)
  case atStart => exact ⟨0, _, by omega, rfl, rfl, Or.inl rfl, HL1.out, HL2.out, HB.out⟩
  case round =>
    obtain ⟨k, p, hk, rfl, rfl, hN⟩ := hrel
    clear HL1 HL2 HB
    by_cases hlt : k < 2
    · have d1 : decide ((k : Int) < 2) = true := by simp; omega
      have N0 := hid hN
      have c0 := hN.c0
      have c1 := hN.c1
      clear hN
      go_upto_region 6 with (first
        | (go_at_call 12; refine (NN.out _ _ _ _ N0.out.n).mono ?_; rintro e w5 ⟨rfl, hb5⟩)
        | ((with_reducible show wpList _ _ _ ({ dst := _, op := Op.store _ _ _, type := _, pos := _, after := _, guard := _ } :: _) _ _); refine wpList_store_new rfl 29 _ _ rfl rfl zero32 rfl (hc zero32) 29 rfl SZ.out ?_))
      show Code.wp _ _ _ _ (w5.alloc (.cells (hc zero32) 29))
      have hbe := (Below.refl _ w5).alloc (Nat.le_refl _) (.cells (hc zero32) 29)
      have N5 := hid ((N0.out.later hb5).later hbe)
      have Z5 := hid (Blk.new w5 (hc zero32) 29)
      generalize hgen : w5.alloc (.cells (hc zero32) 29) = y5 at *
      clear hgen hbe hb5 c0 c1 N0
      generalize w5.heap.size = g5 at *
      have c0 := N5.out.c0
      go_upto_region 7 with (first
        | (go_at_call 14; refine (NR.out _ _ _ N5.out.n).mono ?_; rintro e w6 ⟨rfl, hb6⟩)
        | ((with_reducible show wpList _ _ _ ({ dst := _, op := Op.store _ _ _, type := _, pos := _, after := _, guard := _ } :: _) _ _); refine wpList_store_new rfl 29 _ _ rfl rfl zero32 rfl (hc zero32) 29 rfl SZ.out ?_))
      show Code.wp _ _ _ _ (w6.alloc (.cells (hc zero32) 29))
      have hbe := (Below.refl _ w6).alloc (Nat.le_refl _) (.cells (hc zero32) 29)
      have N6 := hid ((N5.out.later hb6).later hbe)
      have Z56 := hid ((Z5.out.later hb6).later hbe)
      have Z6 := hid (Blk.new w6 (hc zero32) 29)
      generalize hgen : w6.alloc (.cells (hc zero32) 29) = y6 at *
      clear hgen hbe hb6 c0 N5 Z5
      generalize w6.heap.size = g6 at *
      have c0 := N6.out.c0
      have c1 := N6.out.c1
      have NP := hid (noT_path p a b y6 N6.out.n)
      have NQ := hid (noT_proof p a b y6 N6.out.n)
      go_upto_region 9 with (first
        | (go_at_call 16; refine NP.out.mono ?_; rintro e w7 ⟨rfl, rfl⟩)
        | (go_at_call 18; refine NQ.out.mono ?_; rintro e w7 ⟨rfl, rfl⟩))
      have KX := hid (fun q : Later y6 => Blk.keepZ (N6.out.x.later (lat_below q)))
      have K5 := hid (fun q : Later y6 => Blk.keepZ (Z56.out.later (lat_below q)))
      have K6 := hid (fun q : Later y6 => Blk.keepZ (Z6.out.later (lat_below q)))
      have CA := hid (fun q : Later y6 => noT_add p x (lat q) (N6.out.n.later (lat_below q)))
      have CS := hid (fun q : Later y6 => show Calls Tryd.prog 23 #[p] (lat q) fun e w' => e = .returned (.int .i64 0) ∧ Below (lat q).heap.size (lat q) w' from (noT_size p (lat q) (N6.out.n.later (lat_below q))).mono fun _ _ h => ⟨h.1, h.2 ▸ Below.refl _ _⟩)
      have CC := hid (fun q : Later y6 => show Calls Tryd.prog 24 #[p] (lat q) fun e w' => e = .returned (.pointer none) ∧ Below (lat q).heap.size (lat q) w' from (noT_copy p (lat q) (N6.out.n.later (lat_below q))).mono fun _ _ h => ⟨h.1, h.2 ▸ Below.refl _ _⟩)
      clear c0 c1 NP NQ
      have hz32 := HZ.out
      refine wp_region_seq_later ?_
      repeat (first
        | go_big_quiet_skip
        | (refine wpQuiet_load_hcG rfl 29 _ rfl ⟨w.heap.size, 0, none⟩ rfl x _ (by rintro _ ⟨q, rfl⟩; exact KX.out q) Tryd.underlying29 rfl Hsx2.out ?_; simp only [Act.put, List.setIfInBounds_toArray, List.set_cons_succ, List.set_cons_zero])
        | (refine wpQuiet_load_hcG rfl 29 _ rfl ⟨g5, 0, none⟩ rfl zero32 _ (by rintro _ ⟨q, rfl⟩; exact K5.out q) Tryd.underlying29 rfl SZ.out ?_; simp only [Act.put, List.setIfInBounds_toArray, List.set_cons_succ, List.set_cons_zero])
        | (refine wpQuiet_load_hcG rfl 29 _ rfl ⟨g6, 0, none⟩ rfl zero32 _ (by rintro _ ⟨q, rfl⟩; exact K6.out q) Tryd.underlying29 rfl SZ.out ?_; simp only [Act.put, List.setIfInBounds_toArray, List.set_cons_succ, List.set_cons_zero])
        | (refine wpQuiet_buildV (by kernel_rfl) 29 rfl (hv zero32) BZ.out ?_; simp only [Act.put, List.setIfInBounds_toArray, List.set_cons_succ, List.set_cons_zero])
        | go_big_quiet_step ((first | (go_at_call 22; with_reducible exact calls_later (CA.out _)) | (go_at_call 23; with_reducible exact calls_later (CS.out _)) | (go_at_call 24; with_reducible exact calls_later (CC.out _)))))
      refine wpQuiet_nil ?_
      rintro _ ⟨q9, rfl⟩
      have hb9 := lat_below q9
      generalize lat q9 = w9 at *
      have N9 := hid (N6.out.later hb9)
      clear N6 KX K5 K6 CA CS CC hb9 Z56 Z6
      go_wp2
      have hbe := (Below.refl _ w9).alloc (Nat.le_refl _) (.cells #[.map none, .int .i64 0] 48)
      have NF := hid (N9.out.later hbe)
      have NX := hid (show NoT (w9.alloc (.cells #[.map none, .int .i64 0] 48)) (.pointer (some ⟨w9.heap.size, 0, none⟩)) from Or.inr ⟨_, rfl, by simp, (Blk.new w9 #[.map none, .int .i64 0] 48).cell 0⟩)
      go_roundw
      case rel => exact ⟨k + 1, _, by omega, by go_num, rfl, NX.out, NF.out.x, NF.out.i, NF.out.be⟩
      case measure => simp [intOf]; omega
    · have hk2 : k = 2 := by omega
      have d1 : decide ((k : Int) < 2) = false := by simp; omega
      have N0 := hid hN
      clear hN hk hk2 hlt
      go_wp2_with (go_at_call 10; refine (TD.out _ (HG.out.later N0.out.be)).mono ?_; rintro e w9 ⟨rfl, hb9⟩)
      go_ret
      exact ⟨rfl, bth N0.out.be hb9⟩
end Go.Proofs.YtbpjlancjdbehaaDoor
