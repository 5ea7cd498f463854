/- the law TilesTell: the walk -/
import Derived.Test.YtbpjlancjdbehaaDoorQTileRef
import Derived.Test.YtbpjlancjdbehaaDoorQTiled

set_option maxRecDepth 100000
namespace Go.Proofs.YtbpjlancjdbehaaDoor
open Go.RowKit Go.Spec
theorem inI_wrap (x : Int) : inI (wrap64 x) := by
  unfold inI wrap64
  omega
theorem inI_kwrap (n : Int) : inI (IntKind.i64.wrap n) := by
  unfold inI IntKind.wrap
  have e : (2 : Int) ^ IntKind.i64.bits = 18446744073709551616 := by decide
  have e2 : (2 : Int) ^ (IntKind.i64.bits - 1) = 9223372036854775808 := by decide
  simp only [e, e2]
  by_cases h : (9223372036854775808 : Int) ≤ n % 18446744073709551616
  · simp [IntKind.signed, h]; omega
  · simp [IntKind.signed, h]; omega
theorem inI_and (x y : Int) : inI (bits .and .i64 x y) := inI_kwrap _
theorem Blk.keepT {w' : World} {g : Nat} {x : List UInt8} (h : Blk w' g (hc x) 29) : ∀ j z, (x.map bcell)[j]? = some z → w'.cell? ((⟨g, 0, none⟩ : Addr).add j) = some z := fun j z hz => h.cells j z (by rw [hc_toList]; exact hz)
theorem tpathX_lenM (l : List (List UInt8)) (i n : Int) (h : l.length ≤ 100) : (tpathX l i n).length ≤ 9223372036854775807 := by
  unfold tpathX
  split
  · rename_i h1
    obtain ⟨a, b, c, d⟩ := h1
    have := path_len (l.take n.toNat) i.toNat 7 (by rw [List.length_take]; omega) (by rw [List.length_take]; omega)
    omega
  · simp
theorem tproofX_lenM (l : List (List UInt8)) (i n : Int) (h : l.length ≤ 100) : (tproofX l i n).length ≤ 9223372036854775807 := by
  unfold tproofX
  split
  · rename_i h1
    obtain ⟨⟨a, b, c, d⟩, e⟩ := h1
    have := sub_len 7 (l.take n.toNat) i.toNat true (by omega) (by rw [List.length_take]; omega) (by rw [List.length_take]; omega)
    omega
  · simp
set_option maxHeartbeats 8000000 in
theorem tilesTell_law (v : Value) (hs : List (List UInt8)) (a b : Int) (w : World) (hS : SlAt w 32 v (hcs hs)) (hlm : hs.length ≤ 9223372036854775807) (ha : inI a) (hb : inI b) (hG : ShaG w) :
    Calls Tryd.prog 3 #[v, .agg #[.int .i64 a, .int .i64 b]] w fun e w' => e = .returned (.bool true) ∧ Below w.heap.size w w' := by
  have HG := hid hG; clear hG
  have TD := hid (tiled_any)
  have hw1 : Below w.heap.size w (w.alloc (.cells #[.int .i64 a, .int .i64 b] 23)) := (Below.refl _ w).alloc (Nat.le_refl _) _
  obtain ⟨ad, cap, rfl, hcap⟩ := hS.formH
  by_cases h : 100 < hs.length
  · have hd : decide ((100 : Int) < (hs.length : Int)) = true := by simp; omega
    have HT := hid (TD.out _ (HG.out.later hw1))
    clear h hS hlm
    go_enter Tryd.func3, Tryd.ntmps3
    go_wp2_with (go_at_call 10; refine HT.out.mono ?_; rintro e w1 ⟨rfl, hb1⟩)
    go_ret
    exact ⟨rfl, bth hw1 hb1⟩
  · have hd : decide ((100 : Int) < (hs.length : Int)) = false := by simp; omega
    have hI1 := hid (Blk.new w #[.int .i64 a, .int .i64 b] 23)
    have OF := hid (of_any _ hs _ (by omega) (hS.below hw1 (Nat.le_refl _)) (HG.out.later hw1))
    have Ha := hid ha; have Hb := hid hb
    have HS := hid hS; have HW1 := hid hw1
    have hl100 : hs.length ≤ 100 := by omega
    have hs3 := Tryd.sizeHash
    have hs5 := Tryd.sizeU8
    have hge := Tryd.guardHash3
    clear h hS hlm ha hb hw1 hcap
    go_enter Tryd.func3, Tryd.ntmps3
    go_wp2_with (go_at_call 11; refine OF.out.mono ?_; rintro e w2 ⟨⟨g, tb, rfl, hT2, hg2, htb2⟩, hb2⟩)
    have HB2 := hid (bth HW1.out hb2)
    have HI2 := hid (hI1.out.later hb2)
    have Hl2 := hid (show Liv w2 g tb hs [] [(.slice ad hs.length cap, hs)] from ⟨hT2, HG.out.later HB2.out, by simp, fun q hq => by rw [List.mem_singleton.1 hq]; exact HS.out.below HB2.out (Nat.le_refl _)⟩)
    clear hT2 hg2 htb2 hb2 hI1 OF HW1
    go_loopw [7] (fun iv wr => ∃ k : Nat, k ≤ 9 ∧ iv = .int .i64 (k : Int) ∧ Liv wr g tb hs [] [(.slice ad hs.length cap, hs)] ∧ Blk wr w.heap.size #[.int .i64 a, .int .i64 b] 23 ∧ Below w.heap.size w wr) (fun iv _ => 9 - (intOf iv).toNat)
    case atStart => exact ⟨0, by omega, rfl, Hl2.out, HI2.out, HB2.out⟩
    case round =>
      obtain ⟨k, hk, rfl, hl, hi, hb⟩ := hrel
      have HL := hid hl; have HI := hid hi; have HB := hid hb
      clear hl hi hb Hl2 HI2 HB2
      by_cases hlt : k < 9
      · have d1 : decide ((k : Int) < 9) = true := by simp; omega
        go_upto_region 9 with fail
        have K0 := hid (fun q : Later wr => (HI.out.later (lat_below q)).cell 0)
        have K1 := hid (fun q : Later wr => (HI.out.later (lat_below q)).cell 1)
        refine wp_region_later (by kernel_rfl) (by kernel_rfl) ?_
        repeat (first
          | (refine wpQuiet_load_one rfl 3 _ rfl ⟨w.heap.size, 0, none⟩ rfl (.int .i64 a) _ (by rintro _ ⟨q, rfl⟩; exact K0.out q) Tryd.underlying3 rfl ?_; simp only [Act.put, List.setIfInBounds_toArray, List.set_cons_succ, List.set_cons_zero])
          | (refine wpQuiet_load_one rfl 3 _ rfl ⟨w.heap.size, 1, none⟩ rfl (.int .i64 b) _ (by rintro _ ⟨q, rfl⟩; exact K1.out q) Tryd.underlying3 rfl ?_; simp only [Act.put, List.setIfInBounds_toArray, List.set_cons_succ, List.set_cons_zero])
          | go_big_quiet_step (fail))
        refine wpQuiet_nil ?_
        rintro _ ⟨q3, rfl⟩
        have hb3 := lat_below q3
        generalize lat q3 = w3 at *
        have HX3 := hid hb3
        have HI3 := hid (HI.out.later hb3)
        clear hb3 K0 K1
        go_upto_if 46 with fail
        go_cut [8, 9] (fun p q wx => ∃ A B : Int, p = .int .i64 A ∧ q = .int .i64 B ∧ inI A ∧ inI B ∧ Below wr.heap.size wr wx)
        case first =>
          by_cases hz : k = 0
          · have z1 : decide ((0 : Int) < (k : Int)) = false := by simp; omega
            have z2 : decide (0 < k) = false := by simp; omega
            have z3 : ¬ (0 < k) := by omega
            go_wp2_with fail
            go_meet
            exact ⟨a, b, rfl, rfl, Ha.out, Hb.out, HX3.out⟩
          · have z1 : decide ((0 : Int) < (k : Int)) = true := by simp; omega
            have z2 : decide (0 < k) = true := by simp; omega
            have z3 : 0 < k := by omega
            go_upto_region 11 with fail
            have K0 := hid (fun q : Later w3 => (HI3.out.later (lat_below q)).cell 0)
            have K1 := hid (fun q : Later w3 => (HI3.out.later (lat_below q)).cell 1)
            refine wp_region_later (by kernel_rfl) (by kernel_rfl) ?_
            repeat (first
              | (refine wpQuiet_load_one rfl 3 _ rfl ⟨w.heap.size, 0, none⟩ rfl (.int .i64 a) _ (by rintro _ ⟨q, rfl⟩; exact K0.out q) Tryd.underlying3 rfl ?_; simp only [Act.put, List.setIfInBounds_toArray, List.set_cons_succ, List.set_cons_zero])
              | (refine wpQuiet_load_one rfl 3 _ rfl ⟨w.heap.size, 1, none⟩ rfl (.int .i64 b) _ (by rintro _ ⟨q, rfl⟩; exact K1.out q) Tryd.underlying3 rfl ?_; simp only [Act.put, List.setIfInBounds_toArray, List.set_cons_succ, List.set_cons_zero])
              | go_big_quiet_step (fail))
            refine wpQuiet_nil ?_
            rintro _ ⟨q4, rfl⟩
            have hb4 := lat_below q4
            generalize lat q4 = w4 at *
            go_wp2_with fail
            go_meet
            exact ⟨_, _, rfl, rfl, inI_wrap _, inI_wrap _, bth HX3.out hb4⟩
        case rest =>
          obtain ⟨A, B, rfl, rfl, hA, hB, hbx⟩ := hcut
          have HA := hid hA; have HB2 := hid hB; have HX := hid hbx
          have Hr32 := hid HL.out.ti.r32
          have HSl := hid (fun w0 (h0 : Below wr.heap.size wr w0) => (HL.out.s (.slice ad hs.length cap, hs) (by simp)).below h0 (Nat.le_refl _))
          have TN := hid (fun w0 (h0 : Below wr.heap.size wr w0) => tnode_any g tb hs A B w0 (HL.out.ti.later h0) hA hB)
          have RN := hid (fun w0 (h0 : Below wr.heap.size wr w0) => rtnode_any (.slice ad hs.length cap) hs A B w0 (by omega) (HSl.out w0 h0))
          have hC := tileZ_32 Hr32.out A B
          generalize tileZ hs A B = t0 at *
          generalize t0.getD zero32 = C at *
          generalize t0.isSome = c at *
          have HC := hid hC
          have SC := hid (show (Tryd.prog.info? 29).map (·.size) = some C.length by rw [hC]; exact Tryd.sizeHash)
          clear hA hB hbx HX3 HI3 hC
          go_upto_region 13 with (first
            | (go_at_call 12; refine (TN.out _ HX.out).mono ?_; rintro e w5 ⟨rfl, hb5⟩)
            | ((with_reducible show wpList _ _ _ ({ dst := _, op := Op.store _ _ _, type := _, pos := _, after := _, guard := _ } :: _) _ _); refine wpList_store_new rfl 29 _ _ rfl rfl C rfl (hc zero32) 29 (by rw [HC.out]; rfl) SC.out ?_))
          show Code.wp _ _ _ _ (w5.alloc (.cells (hc C) 29))
          have HX5 := hid ((bth HX.out hb5).alloc (bth HX.out hb5).size (.cells (hc C) 29))
          have G5 := hid (Blk.new w5 (hc C) 29)
          have L5 := hid (bth HX.out hb5).size
          generalize hgen : w5.alloc (.cells (hc C) 29) = y5 at *
          clear hgen hb5 HX
          generalize w5.heap.size = g5 at *
          go_upto_region 14 with (first
            | (go_at_call 13; refine (RN.out _ HX5.out).mono ?_; rintro e w6 ⟨rfl, hb6⟩)
            | ((with_reducible show wpList _ _ _ ({ dst := _, op := Op.store _ _ _, type := _, pos := _, after := _, guard := _ } :: _) _ _); refine wpList_store_new rfl 29 _ _ rfl rfl C rfl (hc zero32) 29 (by rw [HC.out]; rfl) SC.out ?_))
          show Code.wp _ _ _ _ (w6.alloc (.cells (hc C) 29))
          have HX6 := hid ((bth HX5.out hb6).alloc (bth HX5.out hb6).size (.cells (hc C) 29))
          have G56 := hid ((G5.out.later hb6).alloc (.cells (hc C) 29))
          have Hne := hid (show g5 ≠ w6.heap.size from Nat.ne_of_lt (G5.out.later hb6).lt)
          have G6 := hid (Blk.new w6 (hc C) 29)
          have L6 := hid (bth HX5.out hb6).size
          generalize hgen : w6.alloc (.cells (hc C) 29) = y6 at *
          clear hgen hb6 HX5 G5 TN RN
          generalize w6.heap.size = g6 at *
          go_upto_if 76 with fail
          go_cut [11, 13] (fun p q wx => ∃ (c' : Bool) (C' : List UInt8), p = .bool c' ∧ q = .bool c' ∧ C'.length = 32 ∧ Blk wx g5 (hc C') 29 ∧ Blk wx g6 (hc C') 29 ∧ Below wr.heap.size wr wx)
          case first =>
            by_cases hz : k = 0
            · have z1 : decide ((0 : Int) < (k : Int)) = false := by simp; omega
              have z2 : decide (0 < k) = false := by simp; omega
              have z3 : ¬ (0 < k) := by omega
              go_wp2_with fail
              go_meet
              exact ⟨c, C, rfl, rfl, HC.out, G56.out, G6.out, HX6.out⟩
            · have z1 : decide ((0 : Int) < (k : Int)) = true := by simp; omega
              have z2 : decide (0 < k) = true := by simp; omega
              have z3 : 0 < k := by omega
              obtain ⟨A7, hA7⟩ : ∃ z, bits BinOp.and IntKind.i64 A 7 = z := ⟨_, rfl⟩
              obtain ⟨B4, hB4⟩ : ∃ z, wrap64 (B.tdiv 4) = z := ⟨_, rfl⟩
              have HA7 := hid (show inI A7 from hA7 ▸ inI_and _ _)
              have HB4 := hid (show inI B4 from hB4 ▸ inI_wrap _)
              have TN2 := hid (fun w0 (h0 : Below wr.heap.size wr w0) => tnode_any g tb hs A7 B4 w0 (HL.out.ti.later h0) HA7.out HB4.out)
              have RN2 := hid (fun w0 (h0 : Below wr.heap.size wr w0) => rtnode_any (.slice ad hs.length cap) hs A7 B4 w0 (by omega) (HSl.out w0 h0))
              have hD := tileZ_32 Hr32.out A7 B4
              generalize tileZ hs A7 B4 = t1 at *
              generalize t1.getD zero32 = D at *
              generalize t1.isSome = d at *
              have HD := hid hD
              have SD := hid (show (Tryd.prog.info? 29).map (·.size) = some (hc D).size by rw [hc_size, hD]; exact Tryd.sizeHash)
              have SDC := hid (show (hc D).size = (hc C).size by rw [hc_size, hc_size, hD, HC.out])
              clear hD HA7 HB4
              go_upto_region 16 with (first
                | (go_at_call 12; refine (TN2.out _ HX6.out).mono ?_; rintro e w7 ⟨rfl, hb7⟩)
                | ((with_reducible show wpList _ _ _ ({ dst := _, op := Op.store _ _ _, type := _, pos := _, after := _, guard := _ } :: _) _ _); refine wpList_store_blk rfl 29 _ _ rfl g5 rfl (hc D) rfl _ _ (G56.out.later hb7) SDC.out SD.out (hc_row_one _) ?_))
              have HX7 := hid ((bth HX6.out hb7).setRow L5.out (hc D))
              have G57 := hid ((G56.out.later hb7).setRow (cs' := hc D))
              have G67 := hid ((G6.out.later hb7).setRow_ne (cs' := hc D) Hne.out.symm)
              generalize w7.setRow g5 (hc D) = y7 at *
              clear hb7 HX6 G56 G6 TN2
              go_wp2_with (first
                | (go_at_call 13; refine (RN2.out _ HX7.out).mono ?_; rintro e w8 ⟨rfl, hb8⟩)
                | ((with_reducible show wpList _ _ _ ({ dst := _, op := Op.store _ _ _, type := _, pos := _, after := _, guard := _ } :: _) _ _); refine wpList_store_blk rfl 29 _ _ rfl g6 rfl (hc D) rfl _ _ (G67.out.later hb8) SDC.out SD.out (hc_row_one _) ?_))
              go_meet
              exact ⟨d, D, rfl, rfl, HD.out, (G57.out.later hb8).setRow_ne Hne.out, (G67.out.later hb8).setRow, (bth HX7.out hb8).setRow L6.out _⟩
          case rest =>
            obtain ⟨c', C', rfl, rfl, hC', hg5, hg6, hbx⟩ := hcut
            have G5 := hid hg5; have G6 := hid hg6; have HX := hid hbx
            have SC' := hid (show (Tryd.prog.info? 29).map (·.size) = some C'.length by rw [hC']; exact Tryd.sizeHash)
            clear hg5 hg6 hbx HC SC G56 HX6 L5 L6 Hne
            have TR := hid (fun w0 (h0 : Below wr.heap.size wr w0) => troott_any g tb hs B w0 (HL.out.ti.later h0) (HL.out.sh.later h0))
            have RR := hid (fun w0 (h0 : Below wr.heap.size wr w0) => rtroot_any (.slice ad hs.length cap) hs B w0 (by omega) (HSl.out w0 h0))
            have TP := hid (fun w0 (h0 : Below wr.heap.size wr w0) => tpath_any g tb hs A B w0 (HL.out.ti.later h0) (HL.out.sh.later h0))
            have RP := hid (fun w0 (h0 : Below wr.heap.size wr w0) => rtpath_any (.slice ad hs.length cap) hs A B w0 (by omega) (HSl.out w0 h0))
            have TQ := hid (fun w0 (h0 : Below wr.heap.size wr w0) => tproof_any g tb hs A B w0 (HL.out.ti.later h0) (HL.out.sh.later h0))
            have RQ := hid (fun w0 (h0 : Below wr.heap.size wr w0) => rtproof_any (.slice ad hs.length cap) hs A B w0 (by omega) (HSl.out w0 h0))
            have hR := trootX_32 Hr32.out B
            have P1l : (tpathX hs A B).length ≤ 9223372036854775807 := tpathX_lenM hs A B hl100
            have P2l : (tproofX hs A B).length ≤ 9223372036854775807 := tproofX_lenM hs A B hl100
            generalize trootX hs B = R at *
            generalize withE hs B = e1 at *
            generalize tpathX hs A B = p1 at *
            generalize tpathE hs A B = e2 at *
            generalize tproofX hs A B = p2 at *
            generalize tproofE hs A B = e3 at *
            have HR := hid hR
            have SR := hid (show (Tryd.prog.info? 29).map (·.size) = some R.length by rw [hR]; exact Tryd.sizeHash)
            clear hR
            go_upto_region 18 with (first
              | (go_at_call 14; refine (TR.out _ HX.out).mono ?_; rintro e w5 ⟨rfl, hb5⟩)
              | ((with_reducible show wpList _ _ _ ({ dst := _, op := Op.store _ _ _, type := _, pos := _, after := _, guard := _ } :: _) _ _); refine wpList_store_new rfl 29 _ _ rfl rfl R rfl (hc zero32) 29 (by rw [HR.out]; rfl) SR.out ?_))
            show Code.wp _ _ _ _ (w5.alloc (.cells (hc R) 29))
            have hbe := (Below.refl _ w5).alloc (Nat.le_refl _) (.cells (hc R) 29)
            have HX5 := hid (bth (bth HX.out hb5) hbe)
            have G55 := hid ((G5.out.later hb5).later hbe)
            have G65 := hid ((G6.out.later hb5).later hbe)
            have R5 := hid (Blk.new w5 (hc R) 29)
            generalize hgen : w5.alloc (.cells (hc R) 29) = y5 at *
            clear hgen hb5 hbe HX G5 G6 TR
            generalize w5.heap.size = r5 at *
            go_upto_region 19 with (first
              | (go_at_call 15; refine (RR.out _ HX5.out).mono ?_; rintro e w6 ⟨rfl, hb6⟩)
              | ((with_reducible show wpList _ _ _ ({ dst := _, op := Op.store _ _ _, type := _, pos := _, after := _, guard := _ } :: _) _ _); refine wpList_store_new rfl 29 _ _ rfl rfl R rfl (hc zero32) 29 (by rw [HR.out]; rfl) SR.out ?_))
            show Code.wp _ _ _ _ (w6.alloc (.cells (hc R) 29))
            have hbe := (Below.refl _ w6).alloc (Nat.le_refl _) (.cells (hc R) 29)
            have HX6 := hid (bth (bth HX5.out hb6) hbe)
            have G56 := hid ((G55.out.later hb6).later hbe)
            have G66 := hid ((G65.out.later hb6).later hbe)
            have R56 := hid ((R5.out.later hb6).later hbe)
            have R6 := hid (Blk.new w6 (hc R) 29)
            generalize hgen : w6.alloc (.cells (hc R) 29) = y6 at *
            clear hgen hb6 hbe HX5 G55 G65 R5 RR
            generalize w6.heap.size = r6 at *
            go_upto_region 20 with (go_at_call 16; refine (TP.out _ HX6.out).mono ?_; rintro e w7 ⟨⟨u7, rfl, hu7⟩, hb7⟩)
            have HX7 := hid (bth HX6.out hb7)
            have G57 := hid (G56.out.later hb7)
            have G67 := hid (G66.out.later hb7)
            have R57 := hid (R56.out.later hb7)
            have R67 := hid (R6.out.later hb7)
            have U7 := hid hu7
            clear hb7 hu7 HX6 G56 G66 R56 R6 TP
            go_upto_region 21 with (go_at_call 17; refine (RP.out _ HX7.out).mono ?_; rintro e w8 ⟨⟨u8, rfl, hu8⟩, hb8⟩)
            have HX8 := hid (bth HX7.out hb8)
            have G58 := hid (G57.out.later hb8)
            have G68 := hid (G67.out.later hb8)
            have R58 := hid (R57.out.later hb8)
            have R68 := hid (R67.out.later hb8)
            have U78 := hid (U7.out.below hb8 (Nat.le_refl _))
            have U8 := hid hu8
            clear hb8 hu8 HX7 G57 G67 R57 R67 U7 RP
            go_upto_region 22 with (go_at_call 18; refine (TQ.out _ HX8.out).mono ?_; rintro e w9 ⟨⟨u9, rfl, hu9⟩, hb9⟩)
            have HX9 := hid (bth HX8.out hb9)
            have G59 := hid (G58.out.later hb9)
            have G69 := hid (G68.out.later hb9)
            have R59 := hid (R58.out.later hb9)
            have R69 := hid (R68.out.later hb9)
            have U79 := hid (U78.out.below hb9 (Nat.le_refl _))
            have U89 := hid (U8.out.below hb9 (Nat.le_refl _))
            have U9 := hid hu9
            clear hb9 hu9 HX8 G58 G68 R58 R68 U78 U8 TQ
            go_upto_region 23 with (go_at_call 19; refine (RQ.out _ HX9.out).mono ?_; rintro e w10 ⟨⟨u10, rfl, hu10⟩, hb10⟩)
            have HX10 := hid (bth HX9.out hb10)
            have K5 := hid (fun q : Later w10 => Blk.keepT ((G59.out.later hb10).later (lat_below q)))
            have K6 := hid (fun q : Later w10 => Blk.keepT ((G69.out.later hb10).later (lat_below q)))
            have Q5 := hid (fun q : Later w10 => Blk.keepT ((R59.out.later hb10).later (lat_below q)))
            have Q6 := hid (fun q : Later w10 => Blk.keepT ((R69.out.later hb10).later (lat_below q)))
            have S1 := hid (fun q : Later w10 => same_any u7 u8 p1 p1 (lat q) ((U79.out.below hb10 (Nat.le_refl _)).below (lat_below q) (Nat.le_refl _)) ((U89.out.below hb10 (Nat.le_refl _)).below (lat_below q) (Nat.le_refl _)) P1l P1l)
            have S2 := hid (fun q : Later w10 => same_any u9 u10 p2 p2 (lat q) ((U9.out.below hb10 (Nat.le_refl _)).below (lat_below q) (Nat.le_refl _)) (hu10.below (lat_below q) (Nat.le_refl _)) P2l P2l)
            rw [beq_self_eq_true p1] at S1
            rw [beq_self_eq_true p2] at S2
            have hR' := HR.out
            clear hb10 hu10 HX9 G59 G69 R59 R69 U79 U89 U9 RQ
            refine wp_region_seq_later ?_
            repeat (first
              | go_big_quiet_skip
              | (refine wpQuiet_load_hcG rfl 29 _ rfl ⟨g5, 0, none⟩ rfl C' _ (by rintro _ ⟨q, rfl⟩; exact K5.out q) Tryd.underlying29 rfl SC'.out ?_; simp only [Act.put, List.setIfInBounds_toArray, List.set_cons_succ, List.set_cons_zero])
              | (refine wpQuiet_load_hcG rfl 29 _ rfl ⟨g6, 0, none⟩ rfl C' _ (by rintro _ ⟨q, rfl⟩; exact K6.out q) Tryd.underlying29 rfl SC'.out ?_; simp only [Act.put, List.setIfInBounds_toArray, List.set_cons_succ, List.set_cons_zero])
              | (refine wpQuiet_load_hcG rfl 29 _ rfl ⟨r5, 0, none⟩ rfl R _ (by rintro _ ⟨q, rfl⟩; exact Q5.out q) Tryd.underlying29 rfl SR.out ?_; simp only [Act.put, List.setIfInBounds_toArray, List.set_cons_succ, List.set_cons_zero])
              | (refine wpQuiet_load_hcG rfl 29 _ rfl ⟨r6, 0, none⟩ rfl R _ (by rintro _ ⟨q, rfl⟩; exact Q6.out q) Tryd.underlying29 rfl SR.out ?_; simp only [Act.put, List.setIfInBounds_toArray, List.set_cons_succ, List.set_cons_zero])
              | go_big_quiet_step ((first | (go_at_call 20; with_reducible exact calls_later (S1.out _)) | (go_at_call 20; with_reducible exact calls_later (S2.out _)))))
            refine wpQuiet_nil ?_
            rintro _ ⟨q11, rfl⟩
            have hb11 := lat_below q11
            generalize lat q11 = w11 at *
            have HX11 := hid (bth HX10.out hb11)
            clear K5 K6 Q5 Q6 S1 S2 hb11 HX10
            go_wp2
            go_roundw
            case rel => exact ⟨k + 1, by omega, by go_num, HL.out.later HX11.out, HI.out.later HX11.out, bth HB.out HX11.out⟩
            case measure => simp [intOf]; omega
      · have hk9 : k = 9 := by omega
        have d1 : decide ((k : Int) < 9) = false := by simp; omega
        clear hk hk9 hlt
        go_wp2_with (go_at_call 10; refine (TD.out _ HL.out.sh).mono ?_; rintro e w9 ⟨rfl, hb9⟩)
        go_ret
        exact ⟨rfl, bth HB.out hb9⟩
end Go.Proofs.YtbpjlancjdbehaaDoor
