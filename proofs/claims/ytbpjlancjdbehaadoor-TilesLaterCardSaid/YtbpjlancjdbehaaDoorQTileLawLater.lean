/- the law TilesLater: the walk -/
import Derived.Test.YtbpjlancjdbehaaDoorQTileLawTell

set_option maxRecDepth 100000
namespace Go.Proofs.YtbpjlancjdbehaaDoor
open Go.RowKit Go.Spec
/-- a block with a byte in it is none of the tiles' own -/
theorem TilesAt.far {w : World} {g b k j : Nat} {l : List (List UInt8)} {u : UInt8} (h : TilesAt w g b l) (hc : w.cell? ⟨k, j, none⟩ = some (bcell u)) : k ≠ g ∧ k ≠ b := by
  refine ⟨fun e => ?_, fun e => ?_⟩
  · subst e
    have hq := h.blk.cell j
    rw [hc] at hq
    match j, hq with
    | 0, q => simp [bcell] at q
    | 1, q => simp [bcell] at q
    | j + 2, q => simp at q
  · subst e
    obtain ⟨n, _, D, ⟨es, c, hb, _⟩, _⟩ := h.map
    simp [World.cell?, hb] at hc
theorem SlAt.two {w w' : World} {g b : Nat} {v : Value} {hs l : List (List UInt8)} (h : SlAt w 32 v (hcs hs)) (hT : TilesAt w g b l) (h2 : Two g b w w') : SlAt w' 32 v (hcs hs) := by
  have h32 := h.len32
  obtain ⟨a, cap, hv, hc, hs', hr⟩ := h
  refine ⟨a, cap, hv, hc, hs', fun i cs hi => ?_⟩
  obtain ⟨k, o, ha, hlt, hcell⟩ := hr i cs hi
  have hi' : i < hs.length := by
    have := (List.getElem?_eq_some_iff.1 hi).1
    rwa [hcs_length] at this
  have he : cs = hs[i].map bcell := by
    simp only [hcs, List.getElem?_map, List.getElem?_eq_getElem hi', Option.map_some] at hi
    injection hi with hi
    exact hi.symm
  subst he
  have hlen := h32 _ (List.getElem_mem hi')
  have h0 : (hs[i].map bcell)[0]? = some (bcell (hs[i][0]'(by omega))) := by
    rw [List.getElem?_map, List.getElem?_eq_getElem (by omega)]; rfl
  obtain ⟨n1, n2⟩ := hT.far (hcell 0 _ h0)
  have hh := h2.block k hlt n1 n2
  refine ⟨k, o, ha, Nat.lt_of_lt_of_le hlt h2.size, fun j u hj => ?_⟩
  have := hcell j u hj
  unfold World.cell? at this ⊢
  rw [hh]; exact this
theorem Blk.two {w w' : World} {g b k : Nat} {l : List (List UInt8)} {x : List UInt8} {t : TypeId} (h : Blk w k (hc x) t) (hx : x.length = 32) (hT : TilesAt w g b l) (h2 : Two g b w w') : Blk w' k (hc x) t := by
  have h0 : w.cell? ⟨k, 0, none⟩ = some (bcell (x[0]'(by omega))) := by
    have := h.cell 0
    rw [this]
    unfold hc
    rw [List.getElem?_toArray, List.getElem?_map, List.getElem?_eq_getElem (by omega)]; rfl
  obtain ⟨n1, n2⟩ := hT.far h0
  exact h2.blk h n1 n2
theorem Liv.two {w w' : World} {g tb g2 b2 : Nat} {L L2 : List (List UInt8)} {bs : List (Nat × List UInt8)} {ss : List (Value × List (List UInt8))} (h : Liv w g tb L bs ss) (hT : TilesAt w g2 b2 L2) (h2 : Two g2 b2 w w')
    (hne : (g ≠ g2 ∧ g ≠ b2) ∧ tb ≠ g2 ∧ tb ≠ b2) (h32 : ∀ q ∈ bs, q.2.length = 32) : Liv w' g tb L bs ss :=
  ⟨h.ti.kept (h2.block g h.ti.lt.1 hne.1.1 hne.1.2) (h2.block tb h.ti.lt.2 hne.2.1 hne.2.2), h.sh.two hT h2, fun q hq => Blk.two (h.b q hq) (h32 q hq) hT h2, fun q hq => SlAt.two (h.s q hq) hT h2⟩
theorem trootX_app (l r : List (List UInt8)) (n : Nat) (h : n ≤ l.length) : trootX (l ++ r) (n : Int) = trootX l (n : Int) := by
  unfold trootX
  rw [if_pos ⟨by omega, by rw [List.length_append]; omega⟩, if_pos ⟨by omega, by omega⟩, Int.toNat_natCast, List.take_append_of_le_length h]
theorem withE_in (l : List (List UInt8)) (n : Nat) (h : n ≤ l.length) : withE l (n : Int) = 0 := by
  unfold withE; rw [if_pos ⟨by omega, by omega⟩]
theorem tpathX_app (l r : List (List UInt8)) (i n : Nat) (h : n ≤ l.length) : tpathX (l ++ r) (i : Int) (n : Int) = tpathX l (i : Int) (n : Int) := by
  have e : tpIn (l ++ r) (i : Int) (n : Int) = tpIn l (i : Int) (n : Int) := by
    unfold tpIn; rw [List.length_append]; apply propext; omega
  unfold tpathX
  simp only [e, Int.toNat_natCast, List.take_append_of_le_length h]
theorem tpathE_app (l r : List (List UInt8)) (i n : Nat) (h : n ≤ l.length) : tpathE (l ++ r) (i : Int) (n : Int) = tpathE l (i : Int) (n : Int) := by
  have e : tpIn (l ++ r) (i : Int) (n : Int) = tpIn l (i : Int) (n : Int) := by
    unfold tpIn; rw [List.length_append]; apply propext; omega
  unfold tpathE
  simp only [e]
theorem tproofX_app (l r : List (List UInt8)) (i n : Nat) (h : n ≤ l.length) : tproofX (l ++ r) (i : Int) (n : Int) = tproofX l (i : Int) (n : Int) := by
  have e : tqIn (l ++ r) (i : Int) (n : Int) = tqIn l (i : Int) (n : Int) := by
    unfold tqIn; rw [List.length_append]; apply propext; omega
  unfold tproofX
  simp only [e, Int.toNat_natCast, List.take_append_of_le_length h]
theorem tproofE_app (l r : List (List UInt8)) (i n : Nat) (h : n ≤ l.length) : tproofE (l ++ r) (i : Int) (n : Int) = tproofE l (i : Int) (n : Int) := by
  have e : tqIn (l ++ r) (i : Int) (n : Int) = tqIn l (i : Int) (n : Int) := by
    unfold tqIn; rw [List.length_append]; apply propext; omega
  unfold tproofE
  simp only [e]
set_option maxHeartbeats 8000000 in
theorem tilesLater_law (v : Value) (hs : List (List UInt8)) (v2 : Value) (ms : List (List UInt8)) (x y : UInt8) (w : World) (hS : SlAt w 32 v (hcs hs)) (hlm : hs.length ≤ 9223372036854775807) (hS2 : SlAt w 32 v2 (hcs ms)) (hlm2 : ms.length ≤ 9223372036854775807) (hG : ShaG w) :
    Calls Tryd.prog 6 #[v, v2, hv [x, y]] w fun e w' => e = .returned (.bool true) ∧ Below w.heap.size w w' := by
  have HG := hid hG; clear hG
  have TD := hid (tiled_any)
  have hw1 : Below w.heap.size w (w.alloc (.cells (hc [x, y]) 50)) := (Below.refl _ w).alloc (Nat.le_refl _) _
  obtain ⟨ad, cap, rfl, hcap⟩ := hS.formH
  obtain ⟨ad2, cap2, rfl, hcap2⟩ := hS2.formH
  by_cases h : 50 < hs.length
  · have hd : decide ((50 : Int) < (hs.length : Int)) = true := by simp; omega
    have HT := hid (TD.out _ (HG.out.later hw1))
    clear h hS hS2 hlm hlm2
    go_enter Tryd.func6, Tryd.ntmps6
    go_wp2_with (go_at_call 10; refine HT.out.mono ?_; rintro e w1 ⟨rfl, hb1⟩)
    go_ret
    exact ⟨rfl, bth hw1 hb1⟩
  · have hd : decide ((50 : Int) < (hs.length : Int)) = false := by simp; omega
    by_cases h2 : 30 < ms.length
    · have hd2 : decide ((30 : Int) < (ms.length : Int)) = true := by simp; omega
      have HT := hid (TD.out _ (HG.out.later hw1))
      clear h h2 hS hS2 hlm hlm2
      go_enter Tryd.func6, Tryd.ntmps6
      go_wp2_with (go_at_call 10; refine HT.out.mono ?_; rintro e w1 ⟨rfl, hb1⟩)
      go_ret
      exact ⟨rfl, bth hw1 hb1⟩
    · have hd2 : decide ((30 : Int) < (ms.length : Int)) = false := by simp; omega
      have hI1 := hid (Blk.new w (hc [x, y]) 50)
      have OF := hid (of_any _ hs _ (by omega) (hS.below hw1 (Nat.le_refl _)) (HG.out.later hw1))
      have HS := hid hS; have HS2 := hid hS2; have HW1 := hid hw1
      have H32 := hid hS2.len32
      have hl50 : hs.length ≤ 50 := by omega
      have hm30 : ms.length ≤ 30 := by omega
      obtain ⟨xn, hxn⟩ : ∃ xn, x.toNat = xn := ⟨_, rfl⟩
      obtain ⟨yn, hyn⟩ : ∃ yn, y.toNat = yn := ⟨_, rfl⟩
      have hx256 : xn ≤ 255 := by have := x.toNat_lt; omega
      have hy256 : yn ≤ 255 := by have := y.toNat_lt; omega
      have hs3 := Tryd.sizeHash
      have hs5 := Tryd.sizeU8
      have hge := Tryd.guardHash3
      clear h h2 hS hS2 hlm hlm2 hw1 hcap hcap2
      go_enter Tryd.func6, Tryd.ntmps6
      go_upto_region 6 with (go_at_call 11; refine OF.out.mono ?_; rintro e w2 ⟨⟨g, tb, rfl, hT2, hg2, htb2⟩, hb2⟩)
      have HB2 := hid (bth HW1.out hb2)
      have HI2 := hid (hI1.out.later hb2)
      have Hl2 := hid (show Liv w2 g tb hs [] [(.slice ad hs.length cap, hs), (.slice ad2 ms.length cap2, ms)] from ⟨hT2, HG.out.later HB2.out, by simp, fun q hq => by
        rcases List.mem_cons.1 hq with rfl | hq
        · exact HS.out.below HB2.out (Nat.le_refl _)
        · rw [List.mem_singleton.1 hq]; exact HS2.out.below HB2.out (Nat.le_refl _)⟩)
      have c0 : w2.cell? ⟨w.heap.size, 0, none⟩ = some (.int .u8 (xn : Int)) := by rw [← hxn]; exact HI2.out.cell 0
      have c1 : w2.cell? ⟨w.heap.size, 1, none⟩ = some (.int .u8 (yn : Int)) := by rw [← hyn]; exact HI2.out.cell 1
      clear hT2 hg2 htb2 hb2 hI1 OF HW1 hxn hyn
      go_cut [9] (fun p wx => ∃ B : Nat, p = .int .i64 (B : Int) ∧ B ≤ hs.length ∧ w2 = wx)
      case first =>
        go_wp2_with fail
        go_meet
        exact ⟨yn % (hs.length + 1), by go_num, Nat.le_of_lt_succ (Nat.mod_lt _ (by omega)), rfl⟩
      case rest =>
        obtain ⟨B, rfl, hB, rfl⟩ := hcut
        clear c1
        go_upto_region 7 with fail
        go_cut [10] (fun p wx => ∃ A : Nat, p = .int .i64 (A : Int) ∧ A ≤ B ∧ w2 = wx)
        case first =>
          go_wp2_with fail
          go_meet
          exact ⟨xn % (B + 1), by go_num, Nat.le_of_lt_succ (Nat.mod_lt _ (by omega)), rfl⟩
        case rest =>
          obtain ⟨A, rfl, hA, rfl⟩ := hcut
          clear c0
          have CP := hid (tcopy_any g tb hs _ Hl2.out.ti)
          have Hr32 := hid Hl2.out.ti.r32
          have hR := trootX_32 Hr32.out (B : Int)
          have P1l : (tpathX hs (A : Int) (B : Int)).length ≤ 9223372036854775807 := tpathX_lenM hs A B (by omega)
          have P2l : (tproofX hs (A : Int) (B : Int)).length ≤ 9223372036854775807 := tproofX_lenM hs A B (by omega)
          have TR := hid (fun w0 h0 h1 => troott_any g tb hs (B : Int) w0 h0 h1)
          have TP := hid (fun w0 h0 h1 => tpath_any g tb hs (A : Int) (B : Int) w0 h0 h1)
          have TQ := hid (fun w0 h0 h1 => tproof_any g tb hs (A : Int) (B : Int) w0 h0 h1)
          have TS := hid (fun w0 h0 => tsize_any g tb hs w0 h0)
          have TR2 := hid (fun g2 b2 w0 h0 h1 => troott_any g2 b2 (hs ++ ms) (B : Int) w0 h0 h1)
          have TP2 := hid (fun g2 b2 w0 h0 h1 => tpath_any g2 b2 (hs ++ ms) (A : Int) (B : Int) w0 h0 h1)
          have TQ2 := hid (fun g2 b2 w0 h0 h1 => tproof_any g2 b2 (hs ++ ms) (A : Int) (B : Int) w0 h0 h1)
          have TS2 := hid (fun g2 b2 w0 h0 => tsize_any g2 b2 (hs ++ ms) w0 h0)
          rw [withE_in hs B hB] at TR
          rw [trootX_app hs ms B hB, withE_in (hs ++ ms) B (by rw [List.length_append]; omega)] at TR2
          rw [tpathX_app hs ms A B hB, tpathE_app hs ms A B hB] at TP2
          rw [tproofX_app hs ms A B hB, tproofE_app hs ms A B hB] at TQ2
          rw [show (((hs ++ ms).length : Nat) : Int) = (hs.length : Int) + (ms.length : Int) by rw [List.length_append]; omega] at TS2
          generalize trootX hs (B : Int) = R at *
          generalize tpathX hs (A : Int) (B : Int) = p1 at *
          generalize tpathE hs (A : Int) (B : Int) = e2 at *
          generalize tproofX hs (A : Int) (B : Int) = p2 at *
          generalize tproofE hs (A : Int) (B : Int) = e3 at *
          have HR := hid hR
          have SR := hid (show (Tryd.prog.info? 29).map (·.size) = some R.length by rw [hR]; exact Tryd.sizeHash)
          clear hR hA hB
          go_upto_region 9 with (go_at_call 24; refine CP.out.mono ?_; rintro e w3 ⟨⟨g2, b2, rfl, hT3, hg3, hb3'⟩, hb3⟩)
          have HB3 := hid (bth HB2.out hb3)
          have HT3 := hid hT3
          have Hne := hid (show (g ≠ g2 ∧ g ≠ b2) ∧ tb ≠ g2 ∧ tb ≠ b2 from by
            have h1 := Hl2.out.ti.lt
            refine ⟨⟨?_, ?_⟩, ?_, ?_⟩ <;> omega)
          have Hgb := hid (show w.heap.size ≤ g2 ∧ w.heap.size ≤ b2 from ⟨Nat.le_trans HB2.out.size hg3, Nat.le_trans HB2.out.size hb3'⟩)
          have Hl3 := hid (Hl2.out.later hb3)
          clear hT3 hg3 hb3' hb3 HB2 Hl2 CP
          go_upto_region 10 with (first
            | (go_at_call 14; refine (TR.out _ Hl3.out.ti Hl3.out.sh).mono ?_; rintro e w5 ⟨rfl, hb5⟩)
            | ((with_reducible show wpList _ _ _ ({ dst := _, op := Op.store _ _ _, type := _, pos := _, after := _, guard := _ } :: _) _ _); refine wpList_store_new rfl 29 _ _ rfl rfl R rfl (hc zero32) 29 (by rw [HR.out]; rfl) SR.out ?_))
          show Code.wp _ _ _ _ (w5.alloc (.cells (hc R) 29))
          have HB5 := hid ((bth HB3.out hb5).alloc (bth HB3.out hb5).size (.cells (hc R) 29))
          have HT5 := hid ((HT3.out.later hb5).later ((Below.refl _ w5).alloc (Nat.le_refl _) (.cells (hc R) 29)))
          have Hl5 := hid ((Hl3.out.later hb5).new R)
          clear hb5 HB3 HT3 Hl3 TR
          generalize hgen : w5.alloc (.cells (hc R) 29) = y5 at *
          clear hgen
          generalize w5.heap.size = g5 at *
          go_upto_region 11 with (go_at_call 16; refine (TP.out _ Hl5.out.ti Hl5.out.sh).mono ?_; rintro e w6 ⟨⟨pa, rfl, hu⟩, hb⟩)
          have HB6 := hid (bth HB5.out hb)
          have HT6 := hid (HT5.out.later hb)
          have Hl6 := hid ((Hl5.out.later hb).addS hu)
          clear hb hu HB5 HT5 Hl5 TP
          go_upto_region 12 with (go_at_call 18; refine (TQ.out _ Hl6.out.ti Hl6.out.sh).mono ?_; rintro e w7 ⟨⟨pb, rfl, hu⟩, hb⟩)
          have HB7 := hid (bth HB6.out hb)
          have HT7 := hid (HT6.out.later hb)
          have Hl7 := hid ((Hl6.out.later hb).addS hu)
          clear hb hu HB6 HT6 Hl6 TQ
          go_wp2_with fail
          go_loopw [18] (fun iv wr => ∃ k : Nat, k ≤ ms.length ∧ iv = .int .i64 (k : Int) ∧ TilesAt wr g2 b2 (hs ++ ms.take k) ∧ Liv wr g tb hs [(g5, R)] [(pb, p2), (pa, p1), (.slice ad hs.length cap, hs), (.slice ad2 ms.length cap2, ms)] ∧ Below w.heap.size w wr) (fun iv _ => ms.length - (intOf iv).toNat)
          case atStart => exact ⟨0, by omega, rfl, by simpa using HT7.out, Hl7.out, HB7.out⟩
          case round =>
            obtain ⟨k, hk, rfl, hT, hl, hb⟩ := hrel
            have HT := hid hT; have HL := hid hl; have HB := hid hb
            clear hT hl hb HT7 Hl7 HB7
            by_cases hlt : k < ms.length
            · have hd3 : decide (k < ms.length) = true := by simpa using hlt
              obtain ⟨bb, o, rfl, hbl, hcl, hcell⟩ := (HL.out.s (.slice ad2 ms.length cap2, ms) (by simp)).at (i := k) (cs := ms[k].map bcell) (by simp [hcs, hlt])
              have hX := H32.out _ (List.getElem_mem hlt)
              have Hnext := hid (show hs ++ ms.take (k + 1) = (hs ++ ms.take k) ++ [ms[k]] from by rw [List.take_succ_eq_append_getElem hlt, List.append_assoc])
              have Hsx := hid (show (Tryd.prog.info? 29).map (·.size) = some ms[k].length by rw [hX]; exact Tryd.sizeHash)
              have ADD := hid (tadd_any g2 b2 (hs ++ ms.take k) ms[k] wr HT.out hX (by rw [List.length_append, List.length_take]; omega) HL.out.sh)
              generalize ms[k] = X at *
              have Hcell := hid hcell
              clear hcell hcl hX
              go_wp2_with (first
                | (refine wpList_load_hc rfl 29 _ rfl ⟨bb, o + k * 32, none⟩ rfl X _ Hcell.out Tryd.underlying29 rfl Hsx.out ?_)
                | (go_at_call 22; refine ADD.out.mono ?_; rintro e w8 ⟨rfl, hT2, h2⟩))
              go_roundw
              case rel => exact ⟨k + 1, by omega, by go_num, by rw [Hnext.out]; exact hT2, HL.out.two HT.out h2 Hne.out (by intro q hq; rw [List.mem_singleton.1 hq]; exact HR.out), HB.out.trans (h2.below HB.out.size Hgb.out.1 Hgb.out.2)⟩
              case measure => simp [intOf]; omega
            · obtain rfl : k = ms.length := by omega
              have hd3 : decide (ms.length < ms.length) = false := by simp
              rw [List.take_length] at HT
              clear hk hlt
              go_upto_region 18 with (first
                | (go_at_call 14; refine (TR2.out _ _ _ HT.out HL.out.sh).mono ?_; rintro e w8 ⟨rfl, hb8⟩)
                | ((with_reducible show wpList _ _ _ ({ dst := _, op := Op.store _ _ _, type := _, pos := _, after := _, guard := _ } :: _) _ _); refine wpList_store_new rfl 29 _ _ rfl rfl R rfl (hc zero32) 29 (by rw [HR.out]; rfl) SR.out ?_))
              show Code.wp _ _ _ _ (w8.alloc (.cells (hc R) 29))
              have HB8 := hid ((bth HB.out hb8).alloc (bth HB.out hb8).size (.cells (hc R) 29))
              have HT8 := hid ((HT.out.later hb8).later ((Below.refl _ w8).alloc (Nat.le_refl _) (.cells (hc R) 29)))
              have Hl8 := hid ((HL.out.later hb8).new R)
              clear hb8 HB HT HL TR2
              generalize hgen : w8.alloc (.cells (hc R) 29) = y8 at *
              clear hgen
              generalize w8.heap.size = g8 at *
              go_upto_region 19 with (go_at_call 16; refine (TP2.out _ _ _ HT8.out Hl8.out.sh).mono ?_; rintro e w9 ⟨⟨pc, rfl, hu⟩, hb⟩)
              have HB9 := hid (bth HB8.out hb)
              have HT9 := hid (HT8.out.later hb)
              have Hl9 := hid ((Hl8.out.later hb).addS hu)
              clear hb hu HB8 HT8 Hl8 TP2
              go_upto_region 20 with (go_at_call 18; refine (TQ2.out _ _ _ HT9.out Hl9.out.sh).mono ?_; rintro e w10 ⟨⟨pd, rfl, hu⟩, hb⟩)
              have HB10 := hid (bth HB9.out hb)
              have HT10 := hid (HT9.out.later hb)
              have Hl10 := hid ((Hl9.out.later hb).addS hu)
              clear hb hu HB9 HT9 Hl9 TQ2
              have K5 := hid (fun q : Later w10 => Hl10.out.cells (k := g5) (x := R) (by simp) (lat q) (lat_below q))
              have K8 := hid (fun q : Later w10 => Hl10.out.cells (k := g8) (x := R) (by simp) (lat q) (lat_below q))
              have C1 := hid (fun q : Later w10 => show Calls Tryd.prog 23 #[.pointer (some ⟨g, 0, none⟩)] (lat q) fun e w' => e = .returned (.int .i64 (hs.length : Int)) ∧ Below (lat q).heap.size (lat q) w' from (TS.out (lat q) (Hl10.out.ti.later (lat_below q))).mono fun _ _ h => ⟨h.1, h.2 ▸ Below.refl _ _⟩)
              have C2 := hid (fun q : Later w10 => show Calls Tryd.prog 23 #[.pointer (some ⟨g2, 0, none⟩)] (lat q) fun e w' => e = .returned (.int .i64 ((hs.length : Int) + (ms.length : Int))) ∧ Below (lat q).heap.size (lat q) w' from (TS2.out _ _ (lat q) (HT10.out.later (lat_below q))).mono fun _ _ h => ⟨h.1, h.2 ▸ Below.refl _ _⟩)
              have C3 := hid (fun q : Later w10 => TD.out (lat q) (Hl10.out.sh.later (lat_below q)))
              have S1 := hid (fun q : Later w10 => same_any pa pc p1 p1 (lat q) ((Hl10.out.s (pa, p1) (by simp)).below (lat_below q) (Nat.le_refl _)) ((Hl10.out.s (pc, p1) (by simp)).below (lat_below q) (Nat.le_refl _)) P1l P1l)
              have S2 := hid (fun q : Later w10 => same_any pb pd p2 p2 (lat q) ((Hl10.out.s (pb, p2) (by simp)).below (lat_below q) (Nat.le_refl _)) ((Hl10.out.s (pd, p2) (by simp)).below (lat_below q) (Nat.le_refl _)) P2l P2l)
              rw [beq_self_eq_true p1] at S1
              rw [beq_self_eq_true p2] at S2
              have hwp : wrap64 ((hs.length : Int) + (ms.length : Int)) = (hs.length : Int) + (ms.length : Int) := by unfold wrap64; omega
              have hR' := HR.out
              clear P1l P2l
              refine wp_region_seq_later ?_
              repeat (first
                | go_big_quiet_skip
                | (refine wpQuiet_load_hcG rfl 29 _ rfl ⟨g5, 0, none⟩ rfl R _ (by rintro _ ⟨q, rfl⟩; exact K5.out q) Tryd.underlying29 rfl SR.out ?_; simp only [Act.put, List.setIfInBounds_toArray, List.set_cons_succ, List.set_cons_zero])
                | (refine wpQuiet_load_hcG rfl 29 _ rfl ⟨g8, 0, none⟩ rfl R _ (by rintro _ ⟨q, rfl⟩; exact K8.out q) Tryd.underlying29 rfl SR.out ?_; simp only [Act.put, List.setIfInBounds_toArray, List.set_cons_succ, List.set_cons_zero])
                | go_big_quiet_step ((first | (go_at_call 23; with_reducible exact calls_later (C1.out _)) | (go_at_call 23; with_reducible exact calls_later (C2.out _)) | (go_at_call 20; with_reducible exact calls_later (S1.out _)) | (go_at_call 20; with_reducible exact calls_later (S2.out _)) | (go_at_call 10; with_reducible exact calls_later (C3.out _)))))
              refine wpQuiet_nil ?_
              rintro _ ⟨q11, rfl⟩
              have hb11 := lat_below q11
              generalize lat q11 = w11 at *
              go_wp2
              go_ret
              exact ⟨rfl, bth HB10.out hb11⟩
end Go.Proofs.YtbpjlancjdbehaaDoor
