/- the law ScriptTell -/
import Derived.Test.YtdefipnmjfnpeaaDoorQScrBack
import Derived.Test.YtdefipnmjfnpeaaDoorQScrEqual

set_option maxRecDepth 100000
namespace Go.Proofs.YtdefipnmjfnpeaaDoor
open Go.RowKit Go.Spec
theorem stpsF_take (xs : List Stp) (k : Nat) (x : Stp) (hx : xs[k]? = some x) : stpsF (xs.take (k + 1)) = stpsF (xs.take k) ++ x.cs.toList := by
  rw [List.take_add_one, hx, ← stpsF_snoc]; rfl
set_option maxHeartbeats 16000000 in
theorem scriptTell_law (v : Value) (xs : List Stp) (s : List UInt8) (w : World) (hS : StpsAt w v xs) (hn : xs.length ≤ 9223372036854775807) (hi : ∀ x ∈ xs, I64 x) (hl : s.length ≤ 9223372036854775807) (hG : ScrG w) :
    Calls Tryd.prog 3 #[v, sv s] w fun e w' => e = .returned (.bool true) ∧ Below w.heap.size w w' := by
  obtain ⟨i0, hi0, hz0, hz1, hz2⟩ := info_parts Tryd.infoStepR
  have HI0 := hid hi0; clear hi0
  have HG := hid hG; have HS := hid hS; have HI := hid hi
  obtain ⟨ea, ec, rfl, _⟩ : ∃ a c, v = .slice a xs.length c ∧ xs.length ≤ c := by
    obtain ⟨a, c, h1, h2, _⟩ := HS.out
    exact ⟨a, c, by simpa using h1, by simpa using h2⟩
  have GR := hid (great_any _ xs w hS hn)
  have WR := hid (fun w0 h0 => written_any w0 h0)
  clear hG hS hi
  go_enter Tryd.func3, Tryd.ntmps3
  go_upto_region 1 with fail
  by_cases hs2 : 2000 < s.length
  · have d1 : decide ((2000 : Int) < (s.length : Int)) = true := decide_eq_true (by omega)
    have d1' : decide (2000 < s.length) = true := decide_eq_true hs2
    clear hs2 hn
    go_wp2_with fail
    refine GR.out.mono ?_
    rintro e w1 ⟨⟨b, rfl, hb⟩, h1⟩
    obtain rfl := h1.symm
    clear h1 hb GR
    cases b
    all_goals go_wp2_with (go_at_call 7; refine (WR.out _ HG.out).mono ?_; rintro e w2 ⟨rfl, hb2⟩)
    all_goals go_ret
    all_goals exact ⟨rfl, hb2⟩
  · have d1 : decide ((2000 : Int) < (s.length : Int)) = false := decide_eq_false (by omega)
    have d1' : decide (2000 < s.length) = false := decide_eq_false hs2
    have Hs2 := hid (show s.length ≤ 2000 by omega)
    clear hs2 hl
    go_wp2_with fail
    refine GR.out.mono ?_
    rintro e w1 ⟨⟨b, rfl, hb⟩, h1⟩
    obtain rfl := h1.symm
    have HBd := hid hb
    clear h1 hb GR
    cases b with
    | true =>
      clear hn
      go_wp2_with (go_at_call 7; refine (WR.out _ HG.out).mono ?_; rintro e w2 ⟨rfl, hb2⟩)
      go_ret
      exact ⟨rfl, hb2⟩
    | false =>
      obtain ⟨h60, h3000⟩ := HBd.out rfl
      have HX := hid (show ∀ x ∈ xs, I64 x ∧ x.text.length ≤ 3000 from fun x hx => ⟨HI.out x hx, h3000 x hx⟩)
      have hpl := put_len xs HX.out h60
      have hb8 : ∀ x ∈ xs, I64 x ∧ x.text.length ≤ 100000000 := fun x hx => ⟨(HX.out x hx).1, by have := (HX.out x hx).2; omega⟩
      have P1 := hid (fun w0 hb h0 => put_any _ xs w0 (SlAt.below HS.out (show Below w.heap.size w w0 from hb) (Nat.le_refl _)) (by omega) hb8 (by omega) h0)
      have P2 := hid (fun u w0 hu => rput_any u xs w0 hu (by omega) hb8 (by omega))
      have G1 := hid (fun w0 h0 => get_any s w0 (by have := Hs2.out; omega) h0)
      have G2 := hid (fun w0 => rget_any s w0 (by have := Hs2.out; omega))
      obtain ⟨F, hF⟩ : ∃ F, flatL xs = F := ⟨_, rfl⟩
      rw [hF] at P1 P2
      clear hF hpl hn HBd h3000
      have hb8' := hid hb8; clear hb8
      go_upto_region 3 with fail
      clear d1 d1'
      go_upto_region 5 with fail
      go_loopw [5, 6] (fun m i wr => ∃ k : Nat, k ≤ xs.length ∧ i = .int .i64 (k : Int) ∧ wr.ownsRow w.heap.size 27 5 m k (stpsF (xs.take k)) ∧ Below w.heap.size w wr) (fun _ i _ => xs.length - (intOf i).toNat)
      case atStart => exact ⟨0, by omega, rfl, World.ownsRow_nil _ _ _ _, Below.refl _ _⟩
      case round =>
        obtain ⟨k, hk, rfl, hown, hb⟩ := hrel
        have HB := hid hb; have HO := hid hown; clear hb hown
        by_cases hlt : k < xs.length
        · have hkI : (k : Int) < (xs.length : Int) := by omega
          have hk60 : k < 60 := by omega
          obtain ⟨x, hx⟩ : ∃ x, xs[k]? = some x := ⟨xs[k], List.getElem?_eq_getElem hlt⟩
          obtain ⟨b, o, rfl⟩ := stps_base HS.out (by omega)
          have LC := hid (stps_cell HS.out hx)
          have LC1 := hid (LC.out wr HB.out)
          have Hx := hid hx; clear hx
          have Hxm := hid (List.mem_of_getElem? Hx.out)
          have Hsx := hid (show (Tryd.prog.info? 28).map (·.size) = some x.cs.size from Tryd.sizeStep)
          have Hsr := hid (show (Tryd.prog.info? 27).map (·.size) = some x.cs.size from Tryd.sizeStepR)
          have Htk := hid (stpsF_take xs k x Hx.out)
          have HLn := hid (show (xs.take (k + 1)).length = k + 1 by rw [List.length_take]; omega)
          go_wp2_with (first
            | ((with_reducible show wpList _ _ _ ({ dst := _, op := Op.load 28 _, type := _, pos := _, after := _, guard := _ } :: _) _ _); refine wpList_load_cs rfl 28 _ rfl ⟨b, o + k * 5, none⟩ rfl x.cs _ LC1.out Tryd.underlying28 rfl Hsx.out ?_)
            | (refine wpList_buildSlice_one rfl 25 27 _ rfl 5 (.agg zeroStp) (.agg x.cs) x.cs rfl Tryd.underlying25 Tryd.infoStepR2 rfl rfl (by decide) (by decide) ?_)
            | (at_builtin; go_must (refine wpList_app rfl _ _ 25 rfl w.heap.size 27 i0 (.agg zeroStp) 5 48 Tryd.underlying25 HI0.out hz0 hz1 hz2 rfl (by decide) _ k (stpsF (xs.take k)) rfl ?c1 ⟨wr.heap.size, 0, none⟩ 1 1 x.cs.toList rfl rfl ?c3 (stp_one x) ?c5 ?c6 ?c7 ?_)))
          case c1 => exact HO.out.alloc _
          case c3 => exact (Blk.new wr x.cs 27).cells
          case c5 => unfold maxLen; omega
          case c6 => omega
          case c7 => have := HB.out.size; simp; omega
          intro v' w8 hown' hgrow hat
          have HB8 := hid ((HB.out.alloc HB.out.size (.cells x.cs 27)).grown hgrow (by have := HB.out.size; simp; omega) (fun q hq => (HO.out.lt q hq).1))
          have HO8 := hid (show w8.ownsRow w.heap.size 27 5 v' (k + 1) (stpsF (xs.take (k + 1))) from by rw [Htk.out]; exact hown')
          have HA8 := hid (show StpsAt w8 v' (xs.take (k + 1)) from StpsAt.of_owns (by rw [HLn.out]; exact HO8.out))
          clear hown' hgrow hat HO LC1
          obtain ⟨k1, hk1⟩ : ∃ k1, k + 1 = k1 := ⟨_, rfl⟩
          have hk1I : (k : Int) + 1 = (k1 : Int) := by omega
          have hkk1 : (k : Int) < (k1 : Int) := by omega
          have hk1x : k1 ≤ xs.length := by omega
          rw [hk1] at HO8 HA8 HLn
          obtain ⟨ma, mc, rfl⟩ : ∃ a c, v' = .slice a k1 c := by
            obtain ⟨a, c, h1, _⟩ := HA8.out
            exact ⟨a, c, by rw [h1, List.length_map, HLn.out]⟩
          obtain ⟨bm, om, rfl⟩ := stps_base HA8.out (by rw [HLn.out]; omega)
          have Hk1 := hid hk1; clear hk1
          have MC := hid (stps_cell HA8.out (i := k) (x := x) (by rw [List.getElem?_take]; rw [if_pos (by have := Hk1.out; omega)]; exact Hx.out))
          by_cases h0 : 0 < k
          · obtain ⟨j, hj⟩ : ∃ j, k = j + 1 := ⟨k - 1, by omega⟩
            have hjI : (k : Int) - 1 = (j : Int) := by omega
            have hjk : (j : Int) < (k1 : Int) := by omega
            have hjn : (j : Int) < (xs.length : Int) := by omega
            have h0I : (0 : Int) < (k : Int) := by omega
            have dk : decide ((0 : Int) < (k : Int)) = true := decide_eq_true h0I
            have dk' : decide (0 < k) = true := decide_eq_true h0
            obtain ⟨y, hy⟩ : ∃ y, xs[j]? = some y := ⟨xs[j]'(by omega), List.getElem?_eq_getElem (by omega)⟩
            have Hym := hid (List.mem_of_getElem? hy)
            have LCy := hid (stps_cell HS.out hy)
            have MCy := hid (stps_cell HA8.out (i := j) (x := y) (by rw [List.getElem?_take]; rw [if_pos (by have := Hk1.out; omega)]; exact hy))
            have S1 := hid (fun q : Later w8 => same_any y x (lat q) (hb8'.out y Hym.out) (hb8'.out x Hxm.out) (HG.out.later (bth HB8.out (lat_below q))))
            have S2 := hid (fun q : Later w8 => rsame_any y x (lat q) (hb8'.out y Hym.out) (hb8'.out x Hxm.out))
            obtain ⟨bb, hbb⟩ : ∃ bb, (!(lineL y == []) && lineL y == lineL x) = bb := ⟨_, rfl⟩
            rw [hbb] at S1 S2
            unfold Stp.v at S1 S2
            have Hj := hid hj
            clear hbb hj hy Hx HLn Htk Hxm Hym h0I
            have Hsy := hid (show (Tryd.prog.info? 28).map (·.size) = some y.cs.size from Tryd.sizeStep)
            have Hsyr := hid (show (Tryd.prog.info? 27).map (·.size) = some y.cs.size from Tryd.sizeStepR)
            generalize x.cs = cx at *
            generalize y.cs = cy at *
            go_upto_region 8 with fail
            cases bb
            all_goals
              refine wp_region_later (by kernel_rfl) (by kernel_rfl) ?_
              repeat (first
                | go_big_quiet_skip
                | (refine wpQuiet_load_aggG rfl 28 _ rfl ⟨b, o + j * 5, none⟩ rfl cy _ (by rintro _ ⟨q, rfl⟩; exact LCy.out _ (bth HB8.out (lat_below q))) Tryd.underlying28 rfl Hsy.out ?_; simp only [Act.put, List.setIfInBounds_toArray, List.set_cons_succ, List.set_cons_zero])
                | (refine wpQuiet_load_aggG rfl 28 _ rfl ⟨b, o + k * 5, none⟩ rfl cx _ (by rintro _ ⟨q, rfl⟩; exact LC.out _ (bth HB8.out (lat_below q))) Tryd.underlying28 rfl Hsx.out ?_; simp only [Act.put, List.setIfInBounds_toArray, List.set_cons_succ, List.set_cons_zero])
                | (refine wpQuiet_load_aggG rfl 27 _ rfl ⟨bm, om + j * 5, none⟩ rfl cy _ (by rintro _ ⟨q, rfl⟩; exact MCy.out _ (lat_below q)) Tryd.underlying27 rfl Hsyr.out ?_; simp only [Act.put, List.setIfInBounds_toArray, List.set_cons_succ, List.set_cons_zero])
                | (refine wpQuiet_load_aggG rfl 27 _ rfl ⟨bm, om + k * 5, none⟩ rfl cx _ (by rintro _ ⟨q, rfl⟩; exact MC.out _ (lat_below q)) Tryd.underlying27 rfl Hsr.out ?_; simp only [Act.put, List.setIfInBounds_toArray, List.set_cons_succ, List.set_cons_zero])
                | go_big_quiet_step ((first | (go_at_call 8; with_reducible exact calls_later (S1.out _)) | (go_at_call 9; with_reducible exact calls_later (S2.out _)))))
              refine wpQuiet_nil ?_
              rintro _ ⟨q9, rfl⟩
              have hb9 := lat_below q9
              generalize lat q9 = w9 at *
              go_wp2
              go_roundw
              case rel => exact ⟨k1, hk1x, by go_num, HO8.out.later hb9, bth HB8.out hb9⟩
              case measure => simp [intOf]; have := Hk1.out; omega
          · have h0I : ¬ (0 : Int) < (k : Int) := by omega
            have dk : decide ((0 : Int) < (k : Int)) = false := decide_eq_false h0I
            have dk' : decide (0 < k) = false := decide_eq_false h0
            clear Hx HLn Htk Hxm h0I h0
            generalize x.cs = cx at *
            go_upto_region 8 with fail
            refine wp_region_later (by kernel_rfl) (by kernel_rfl) ?_
            repeat (first
              | go_big_quiet_skip
              | (go_big_quiet_want; go_big_quiet_op; first | go_big_quiet_on | (refine ⟨_, fun _ _ => rfl, ?_⟩; go_big_quiet_on)))
            refine wpQuiet_nil ?_
            rintro _ ⟨q9, rfl⟩
            have hb9 := lat_below q9
            generalize lat q9 = w9 at *
            go_wp2
            go_roundw
            case rel => exact ⟨k1, hk1x, by go_num, HO8.out.later hb9, bth HB8.out hb9⟩
            case measure => simp [intOf]; have := Hk1.out; omega
        · obtain rfl : k = xs.length := by omega
          rw [List.take_length] at HO
          have HA := hid (show StpsAt wr u5 xs from StpsAt.of_owns HO.out)
          obtain ⟨ma, mc, hu⟩ : ∃ a c, u5 = .slice a xs.length c := by
            obtain ⟨a, c, h1, _⟩ := HA.out
            exact ⟨a, c, by rw [h1, List.length_map]⟩
          subst hu
          clear hlt hk HO HI0 hz0 hz1 hz2 hb8'
          go_upto_region 11 with (go_at_call 10; refine (G1.out _ (HG.out.later HB.out)).mono ?_; rintro e w2 ⟨hx1, hb2⟩; obtain ⟨ys, ln, tt, aa, ac, rfl, hA2, hY⟩ := hx1.out)
          have HB2 := hid (bth HB.out hb2); have HA2 := hid hA2; have HY := hid hY
          have HM2 := hid (show StpsAt w2 (.slice ma xs.length mc) xs from SlAt.below HA.out hb2 (Nat.le_refl _))
          clear hb2 hA2 hY HB HA G1 hx1
          go_upto_region 12 with (go_at_call 11; refine (G2.out _).mono ?_; rintro e w3 ⟨hx2, hb3⟩; obtain ⟨zs, ln', tt', ba, bc, rfl, hA3, hZ⟩ := hx2.out; obtain ⟨h1, h2, h3⟩ := hZ.unique HY.out; subst h1; subst h2; subst h3)
          have HB3 := hid (bth HB2.out hb3); have HB3a := hid hA3
          have HA3 := hid (show StpsAt w3 (.slice aa zs.length ac) zs from SlAt.below HA2.out hb3 (Nat.le_refl _))
          have HM3 := hid (show StpsAt w3 (.slice ma xs.length mc) xs from SlAt.below HM2.out hb3 (Nat.le_refl _))
          have hz2000 : zs.length ≤ 2000 := by have := HY.out.size; have := Hs2.out; omega
          clear hb3 hA3 HB2 HA2 HM2 G2 hx2 hZ
          go_upto_region 14 with (first
            | (go_at_call 12; refine (P1.out _ HB3.out (HG.out.later HB3.out)).mono ?_; rintro e w4 ⟨rfl, hb4⟩; have HB4 := hid (bth HB3.out hb4); have HM4 := hid (show StpsAt w4 (.slice ma xs.length mc) xs from SlAt.below HM3.out hb4 (Nat.le_refl _)); have H34 := hid hb4; clear hb4)
            | (go_at_call 13; refine (P2.out _ _ HM4.out).mono ?_; rintro e w5 ⟨rfl, hb5⟩; have HB5 := hid (bth HB4.out hb5); have H35 := hid (bth H34.out hb5); clear hb5))
          have HAL := hid (show StpsAt w5 (.slice aa zs.length ac) zs from SlAt.below HA3.out H35.out (Nat.le_refl _))
          have HBL := hid (show StpsAt w5 (.slice ba zs.length bc) zs from SlAt.below HB3a.out H35.out (Nat.le_refl _))
          clear HA3 HB3a HB3 HB4 HM3 HM4 H34 H35 P1 P2
          go_upto_region 15 with fail
          go_loopw [13] (fun i wr => ∃ k : Nat, k ≤ zs.length ∧ i = .int .i64 (k : Int) ∧ Below w5.heap.size w5 wr) (fun i _ => zs.length - (intOf i).toNat)
          case atStart => exact ⟨0, by omega, rfl, Below.refl _ _⟩
          case round =>
            obtain ⟨k, hk, rfl, hb⟩ := hrel
            have HB := hid hb; have HBw := hid (bth HB5.out hb); clear hb
            by_cases hlt : k < zs.length
            · have hkI : (k : Int) < (zs.length : Int) := by omega
              obtain ⟨y, hy⟩ : ∃ y, zs[k]? = some y := ⟨zs[k], List.getElem?_eq_getElem hlt⟩
              obtain ⟨b1, o1, rfl⟩ := stps_base HAL.out (by omega)
              obtain ⟨b2, o2, rfl⟩ := stps_base HBL.out (by omega)
              have LC := hid (stps_cell HAL.out hy)
              have MC := hid (stps_cell HBL.out hy)
              have hE2 := fun w => equalStep y w
              have hgd := guardStepR
              have Hsy := hid (show (Tryd.prog.info? 28).map (·.size) = some y.cs.size from Tryd.sizeStep)
              have Hsr := hid (show (Tryd.prog.info? 27).map (·.size) = some y.cs.size from Tryd.sizeStepR)
              clear hy
              generalize y.cs = cy at *
              go_upto_region 17 with fail
              refine wp_region_later (by kernel_rfl) (by kernel_rfl) ?_
              repeat (first
                | go_big_quiet_skip
                | (refine wpQuiet_load_aggG rfl 28 _ rfl ⟨b1, o1 + k * 5, none⟩ rfl cy _ (by rintro _ ⟨q, rfl⟩; exact LC.out _ (bth HB.out (lat_below q))) Tryd.underlying28 rfl Hsy.out ?_; simp only [Act.put, List.setIfInBounds_toArray, List.set_cons_succ, List.set_cons_zero])
                | (refine wpQuiet_load_aggG rfl 27 _ rfl ⟨b2, o2 + k * 5, none⟩ rfl cy _ (by rintro _ ⟨q, rfl⟩; exact MC.out _ (bth HB.out (lat_below q))) Tryd.underlying27 rfl Hsr.out ?_; simp only [Act.put, List.setIfInBounds_toArray, List.set_cons_succ, List.set_cons_zero])
                | (go_big_quiet_want; go_big_quiet_op; first | go_big_quiet_on | (refine ⟨_, fun _ _ => rfl, ?_⟩; go_big_quiet_on)))
              refine wpQuiet_nil ?_
              rintro _ ⟨q9, rfl⟩
              have hb9 := lat_below q9
              generalize lat q9 = w9 at *
              go_wp2
              go_roundw
              case rel => exact ⟨k + 1, by omega, by go_num, bth HB.out hb9⟩
              case measure => simp [intOf]; omega
            · obtain rfl : k = zs.length := by omega
              clear hlt hk
              rcases HY.out.end with rfl | ⟨rfl, hys⟩
              · clear HY HAL HBL
                go_wp2_with (go_at_call 7; refine (WR.out _ (HG.out.later HBw.out)).mono ?_; rintro e w9 ⟨rfl, hb9⟩)
                go_ret
                exact ⟨rfl, bth HBw.out hb9⟩
              · subst hys
                clear HY HAL HBL
                go_wp2_with (go_at_call 7; refine (WR.out _ (HG.out.later HBw.out)).mono ?_; rintro e w9 ⟨rfl, hb9⟩)
                go_ret
                exact ⟨rfl, bth HBw.out hb9⟩
end Go.Proofs.YtdefipnmjfnpeaaDoor
