/- the law TilesFull: the walk -/
import Derived.Test.YtbpjlancjdbehaaDoorQTiled

set_option maxRecDepth 100000
namespace Go.Proofs.YtbpjlancjdbehaaDoor
open Go.RowKit Go.Spec
theorem full_facts (x : List UInt8) : ∃ R : List UInt8, tileZ (List.replicate 4096 x) 12 0 = some R ∧ trootX (List.replicate 4096 x) 4096 = R ∧ withE (List.replicate 4096 x) 4096 = 0 ∧ (x.length = 32 → R.length = 32) := by
  refine ⟨rootL ((List.replicate 4096 x).take 4096), ?_, ?_, ?_, fun h => rootL_len _ _ (Nat.le_refl _) (fun y hy => ?_)⟩
  · unfold tileZ tileN
    rw [if_pos ⟨by omega, by omega⟩, if_pos (by simp)]
    unfold seg
    rfl
  · unfold trootX
    rw [if_pos ⟨by omega, by simp⟩]; rfl
  · unfold withE
    rw [if_pos ⟨by omega, by simp⟩]
  · have := List.mem_of_mem_take hy
    rw [(List.mem_replicate.1 this).2]; exact h
set_option maxHeartbeats 8000000 in
theorem tilesFull_law (x : List UInt8) (less : Nat) (w : World) (hx : x.length = 32) (hn : less < 256) (hG : ShaG w) :
    Calls Tryd.prog 4 #[hv x, .int .u8 (less : Int)] w fun e w' => e = .returned (.bool true) ∧ Below w.heap.size w w' := by
  have HG := hid hG; clear hG
  have hw1 : Below w.heap.size w (w.alloc (.cells (hc x) 29)) := (Below.refl _ w).alloc (Nat.le_refl _) _
  have TD := hid (tiled_any)
  by_cases h : less % 64 = 0
  · have hd : ((less : Int) % 64 != 0) = false := by simp; omega
    have hL1 : Blk (w.alloc (.cells (hc x) 29)) w.heap.size (hc x) 29 := Blk.new _ _ _
    have hsz1 : (w.alloc (.cells (hc x) 29)).heap.size = w.heap.size + 1 := by simp
    have Hsz1 := hid hsz1
    have NW := hid (tnew_any (w.alloc (.cells (hc x) 29)))
    obtain ⟨R, hF1, hF2, hF3, hF4⟩ := full_facts x
    have hR := hF4 hx
    have HL1 := hid hL1; have HW1 := hid hw1; have Hx := hid hx
    have Hsx := hid (show (Tryd.prog.info? 29).map (·.size) = some (hc x).size by rw [hc_size, hx]; exact Tryd.sizeHash)
    have Hsx2 := hid (show (Tryd.prog.info? 29).map (·.size) = some x.length by rw [hx]; exact Tryd.sizeHash)
    have SR := hid (show (Tryd.prog.info? 29).map (·.size) = some R.length by rw [hR]; exact Tryd.sizeHash)
    have HF1 := hid hF1; have HF2 := hid hF2; have HF3 := hid hF3
    have hs3 := Tryd.sizeHash
    have hs5 := Tryd.sizeU8
    have hge := Tryd.guardHash3
    clear h hL1 hsz1 hw1 hx hF1 hF2 hF3 hF4
    go_enter Tryd.func4, Tryd.ntmps4
    go_wp2_with (go_at_call 21; refine NW.out.mono ?_; rintro e w2 ⟨rfl, ht2, hb2⟩)
    have HT2 := hid ht2; have Hb2 := hid hb2
    clear ht2 hb2 NW
    rw [Hsz1.out] at HT2
    obtain ⟨b, hb⟩ : ∃ b, w.heap.size + 1 = b := ⟨_, rfl⟩
    obtain ⟨g, hg⟩ : ∃ g, b + 1 = g := ⟨_, rfl⟩
    have Hgb := hid (show w.heap.size + 1 ≤ g ∧ w.heap.size + 1 ≤ b by omega)
    rw [hb, hg] at HT2
    try simp only [hb, hg]
    have HT2' := HT2
    have HL2 := hid (HL1.out.later Hb2.out)
    have HB2 := hid (bth HW1.out Hb2.out)
    clear HT2 Hb2 hg hb HL1 HW1 Hsz1
    go_loopw [6] (fun iv wr => ∃ k : Nat, k ≤ 4096 ∧ iv = .int .i64 (k : Int) ∧ TilesAt wr g b (List.replicate k x) ∧ Blk wr w.heap.size (hc x) 29 ∧ Below w.heap.size w wr) (fun iv _ => 4096 - (intOf iv).toNat)
    case atStart => exact ⟨0, by omega, rfl, HT2'.out, HL2.out, HB2.out⟩
    case round =>
      obtain ⟨k, hk, rfl, hT, hL, hb⟩ := hrel
      clear HT2' HL2 HB2
      have HT := hid hT; have HL := hid hL; have HB := hid hb
      by_cases hlt : k < 4096
      · have hd2 : decide ((k : Int) < 4096) = true := by simp; omega
        have ADD := hid (tadd_any g b (List.replicate k x) x wr hT Hx.out (by rw [List.length_replicate]; omega) (HG.out.later hb))
        have Hrep := hid (show List.replicate k x ++ [x] = List.replicate (k + 1) x from by rw [List.replicate_succ'])
        clear hT hL hb
        go_wp2_with (first
          | ((with_reducible show wpList _ _ _ ({ dst := _, op := Op.load 29 _, type := _, pos := _, after := _, guard := _ } :: _) _ _); refine wpList_load_blk rfl 29 _ rfl w.heap.size rfl 29 (hc x) _ HL.out Tryd.underlying29 rfl Hsx.out ?_)
          | (go_at_call 22; refine ADD.out.mono ?_; rintro e w3 ⟨rfl, hT3, h3⟩))
        go_roundw
        case rel => exact ⟨k + 1, by omega, by go_num, by rw [← Hrep.out]; exact hT3, h3.blk HL.out (by have := Hgb.out; omega) (by have := Hgb.out; omega), HB.out.trans (h3.below HB.out.size (by have := Hgb.out; omega) (by have := Hgb.out; omega))⟩
        case measure => simp [intOf]; omega
      · obtain rfl : k = 4096 := by omega
        have hd2 : decide (((4096 : Nat) : Int) < 4096) = false := by decide
        have TN := hid (fun w0 h0 => tnode_any g b (List.replicate 4096 x) 12 0 w0 h0 (by unfold inI; omega) (by unfold inI; omega))
        have TR := hid (fun w0 h0 h1 => troott_any g b (List.replicate 4096 x) 4096 w0 h0 h1)
        have TF := hid (fun w0 h0 => tadd_full g b (List.replicate 4096 x) x w0 h0 (by simp))
        have TS := hid (fun w0 h0 => tsize_any g b (List.replicate 4096 x) w0 h0)
        have hl4 : (List.replicate 4096 x).length = 4096 := List.length_replicate
        rw [hl4] at TS
        rw [HF1.out] at TN
        rw [HF2.out, HF3.out] at TR
        simp only [Option.getD_some, Option.isSome_some] at TN
        generalize List.replicate 4096 x = LL at *
        have Hl0 := hid (show Liv wr g b LL [(w.heap.size, x)] [] from ⟨hT, HG.out.later hb, fun q hq => by rw [List.mem_singleton.1 hq]; exact hL, by simp⟩)
        clear hT hL hb HT HL hl4
        go_upto_region 10 with (first
          | (go_at_call 12; refine (TN.out _ Hl0.out.ti).mono ?_; rintro e w7 ⟨rfl, hb7⟩)
          | ((with_reducible show wpList _ _ _ ({ dst := _, op := Op.store _ _ _, type := _, pos := _, after := _, guard := _ } :: _) _ _); refine wpList_store_new rfl 29 _ _ rfl rfl R rfl (hc zero32) 29 (by rw [hR]; rfl) SR.out ?_))
        have HB7 := hid ((bth HB.out hb7).alloc (bth HB.out hb7).size (.cells (hc R) 29))
        have Hl7 := hid ((Hl0.out.later hb7).new R)
        clear hb7 HB Hl0
        show Code.wp _ _ _ _ (w7.alloc (.cells (hc R) 29))
        generalize hgen : w7.alloc (.cells (hc R) 29) = y7 at *
        clear hgen
        generalize w7.heap.size = g7 at *
        go_upto_region 11 with (first
          | (go_at_call 14; refine (TR.out _ Hl7.out.ti Hl7.out.sh).mono ?_; rintro e w8 ⟨rfl, hb8⟩)
          | ((with_reducible show wpList _ _ _ ({ dst := _, op := Op.store _ _ _, type := _, pos := _, after := _, guard := _ } :: _) _ _); refine wpList_store_new rfl 29 _ _ rfl rfl R rfl (hc zero32) 29 (by rw [hR]; rfl) SR.out ?_))
        have HB8 := hid ((bth HB7.out hb8).alloc (bth HB7.out hb8).size (.cells (hc R) 29))
        have Hl8 := hid ((Hl7.out.later hb8).new R)
        clear hb8 HB7 Hl7
        show Code.wp _ _ _ _ (w8.alloc (.cells (hc R) 29))
        generalize hgen : w8.alloc (.cells (hc R) 29) = y8 at *
        clear hgen
        generalize w8.heap.size = g8 at *
        have KX := hid (fun q : Later y8 => Hl8.out.cells (k := w.heap.size) (x := x) (by simp) (lat q) (lat_below q))
        have K7 := hid (fun q : Later y8 => Hl8.out.cells (k := g7) (x := R) (by simp) (lat q) (lat_below q))
        have K8 := hid (fun q : Later y8 => Hl8.out.cells (k := g8) (x := R) (by simp) (lat q) (lat_below q))
        have C1 := hid (fun q : Later y8 => TF.out (lat q) (Hl8.out.ti.later (lat_below q)))
        have C2 := hid (fun q : Later y8 => show Calls Tryd.prog 23 #[.pointer (some ⟨g, 0, none⟩)] (lat q) fun e w' => e = .returned (.int .i64 ((4096 : Nat) : Int)) ∧ Below (lat q).heap.size (lat q) w' from (TS.out (lat q) (Hl8.out.ti.later (lat_below q))).mono fun _ _ h => ⟨h.1, h.2 ▸ Below.refl _ _⟩)
        have C3 := hid (fun q : Later y8 => TD.out (lat q) (Hl8.out.sh.later (lat_below q)))
        refine wp_region_seq_later ?_
        repeat (first
          | (refine wpQuiet_load_hcG rfl 29 _ rfl ⟨w.heap.size, 0, none⟩ rfl x _ (by rintro _ ⟨q, rfl⟩; exact KX.out q) Tryd.underlying29 rfl Hsx2.out ?_; simp only [Act.put, List.setIfInBounds_toArray, List.set_cons_succ, List.set_cons_zero])
          | (refine wpQuiet_load_hcG rfl 29 _ rfl ⟨g7, 0, none⟩ rfl R _ (by rintro _ ⟨q, rfl⟩; exact K7.out q) Tryd.underlying29 rfl SR.out ?_; simp only [Act.put, List.setIfInBounds_toArray, List.set_cons_succ, List.set_cons_zero])
          | (refine wpQuiet_load_hcG rfl 29 _ rfl ⟨g8, 0, none⟩ rfl R _ (by rintro _ ⟨q, rfl⟩; exact K8.out q) Tryd.underlying29 rfl SR.out ?_; simp only [Act.put, List.setIfInBounds_toArray, List.set_cons_succ, List.set_cons_zero])
          | go_big_quiet_step ((first | (go_at_call 22; with_reducible exact calls_later (C1.out _)) | (go_at_call 23; with_reducible exact calls_later (C2.out _)) | (go_at_call 10; with_reducible exact calls_later (C3.out _)))))
        refine wpQuiet_nil ?_
        rintro _ ⟨q9, rfl⟩
        have hb9 := lat_below q9
        generalize lat q9 = w9 at *
        go_wp2
        go_ret
        exact ⟨rfl, bth HB8.out hb9⟩
  · have hd : ((less : Int) % 64 != 0) = true := by simp; omega
    have HT := hid (TD.out _ (HG.out.later hw1))
    clear h hx
    go_enter Tryd.func4, Tryd.ntmps4
    go_wp2_with (go_at_call 10; refine HT.out.mono ?_; rintro e w1 ⟨rfl, hb1⟩)
    go_ret
    exact ⟨rfl, bth hw1 hb1⟩
end Go.Proofs.YtbpjlancjdbehaaDoor
