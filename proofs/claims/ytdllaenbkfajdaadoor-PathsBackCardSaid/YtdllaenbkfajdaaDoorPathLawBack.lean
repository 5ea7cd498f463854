/- the law PathsBack: the walk (begun; not whole) -/
import Derived.Test.YtdllaenbkfajdaaDoorPathLawCheck
import Derived.Test.YtdllaenbkfajdaaDoorClone
set_option maxRecDepth 100000
namespace Go.Proofs.YtdllaenbkfajdaaDoor
open Go.RowKit Go.Spec
/-- a path of another length proves nothing -/
theorem check_longer (l : List (List UInt8)) (i : Nat) (hi : i < l.length) (hl : l.length ≤ 4096) (x r : List UInt8) (p : List (List UInt8)) (hp : p.length ≠ (pathL l i).length) : checkE x (i : Int) (l.length : Int) p r = 80 := by
  unfold checkE
  have h : ¬ chkOut (i : Int) (l.length : Int) := by unfold chkOut; omega
  have e := (path_all l.length l i (Nat.le_refl _) hi).1
  rw [if_neg h, Int.toNat_natCast, Int.toNat_natCast]
  unfold checkN
  rw [← e, decide_eq_false hp]; rfl
/-- a slice without hashes -/
theorem slEmpty (w : World) (a : Option Addr) (c : Nat) : SlAt w 32 (.slice a 0 c) (hcs []) := ⟨a, c, rfl, Nat.zero_le _, fun _ h => by simp [hcs] at h, fun i cs h => by simp [hcs] at h⟩
set_option maxHeartbeats 8000000 in
theorem pathsBack_law (v : Value) (hs : List (List UInt8)) (x : List UInt8) (w : World) (hS : SlAt w 32 v (hcs hs)) (hl : hs.length ≤ 9223372036854775807) (hx : x.length = 32) (hG : ShaG w) :
    Calls Tryd.prog 11 #[v, hv x] w fun e w' => e = .returned (.bool true) ∧ Below w.heap.size w w' := by
  have HG := hid hG; clear hG
  have HB : Below w.heap.size w (w.alloc (.cells (hc x) 25)) := (Below.refl _ w).alloc (Nat.le_refl _) _
  have hX : Blk (w.alloc (.cells (hc x) 25)) w.heap.size (hc x) 25 := Blk.new _ _ _
  have hSv := hS
  obtain ⟨a, cap, rfl, hcap⟩ := hSv.formH
  clear hSv
  by_cases h1 : 60 < hs.length
  · have hd : decide ((60 : Int) < (hs.length : Int)) = true := by simp; omega
    clear h1 hS hX
    go_enter Tryd.func11, Tryd.ntmps11
    go_wp2_with (go_at_call 29; refine (found_any _ (HG.out.later HB)).mono ?_; rintro e w1 ⟨rfl, hb⟩)
    go_ret
    exact ⟨rfl, bth HB hb⟩
  · have hd : decide ((60 : Int) < (hs.length : Int)) = false := by simp; omega
    have hn60 : hs.length ≤ 60 := by omega
    have HS := hid hS
    have H32 := hid hS.len32
    have Hx := hid hx
    have hRl := rootL_len _ hs (Nat.le_refl _) hS.len32
    have RT := hid (fun w0 h h0 => root_any hs (.slice a hs.length cap) w0 (by omega) h0 h)
    have Hown0 := hid (fun i hi => check_own hs i hi (by omega))
    have Hlong := hid (fun i hi y r p hp => check_longer hs i hi (by omega) y r p hp)
    have PI := hid (fun i hi w0 h h0 => path_in (.slice a hs.length cap) hs i w0 h (by omega) hi h0)
    have Hpl := hid (fun i hi => path_len hs i 6 hi (by omega))
    have HP32 := hid (fun i => path_32 hs.length hs i (Nat.le_refl _) H32.out)
    generalize hR : rootL hs = R at *
    clear hR
    have HRl := hid hRl
    have SR := hid (show (Tryd.prog.info? 25).map (·.size) = some R.length by rw [hRl]; exact Tryd.sizeHash)
    have HBx := hid HB; have HX := hid hX
    clear h1 hS hl hx hRl HB hX
    go_enter Tryd.func11, Tryd.ntmps11
    go_upto_region 4 with (first
      | (go_at_call 13; refine (RT.out _ (HS.out.below HBx.out (Nat.le_refl _)) (HG.out.later HBx.out)).mono ?_; rintro e w1 ⟨rfl, hb1⟩)
      | ((with_reducible show wpList _ _ _ ({ dst := _, op := Op.store _ _ _, type := _, pos := _, after := _, guard := _ } :: _) _ (World.alloc w1 _)); refine wpList_store_new rfl 25 _ _ rfl rfl R rfl (hc zero32) 25 (by rw [HRl.out]; rfl) SR.out ?_))
    show Code.wp _ _ _ _ (w1.alloc (.cells (hc R) 25))
    have hb01 := bth HBx.out hb1
    have HB2 := hid (hb01.alloc hb01.size (.cells (hc R) 25))
    have HR2 := hid (Blk.new w1 (hc R) 25)
    have HX2 := hid ((HX.out.later hb1).alloc (.cells (hc R) 25))
    clear hb1 hb01 HBx HX RT
    generalize w1.alloc (.cells (hc R) 25) = w2 at *
    generalize w1.heap.size = gr at *
    simp only [Act.put]
    go_wp2_with fail
    go_loopw [6] (fun i wr => ∃ k : Nat, k ≤ hs.length ∧ i = .int .i64 (k : Int) ∧ Below w2.heap.size w2 wr) (fun i _ => hs.length - (intOf i).toNat)
    case atStart => exact ⟨0, by omega, rfl, Below.refl _ _⟩
    case round =>
      obtain ⟨k, hk, rfl, hb⟩ := hrel
      have Hbr := hid (bth HB2.out hb)
      have Hb := hid hb
      clear hb
      by_cases hkl : k < hs.length
      · have hdk : decide (k < hs.length) = true := by simpa using hkl
        have PI' := hid (PI.out k hkl)
        have Hc0 := hid (Hown0.out k hkl); have Hlg := hid (Hlong.out k hkl)
        have hpl6 := Hpl.out k hkl
        have HPk := hid (HP32.out k)
        clear Hown0 Hlong PI Hpl HP32
        generalize pathL hs k = P at *
        obtain ⟨Y, hY⟩ : ∃ Y, hs[k] = Y := ⟨_, rfl⟩
        have hYq : hs[k]? = some Y := by rw [List.getElem?_eq_getElem hkl, hY]
        have hYd : hs.getD k [] = Y := by rw [List.getD_eq_getElem?_getD, hYq]; rfl
        rw [hYd] at Hc0
        have HY := hid (H32.out Y (List.mem_of_getElem? hYq))
        have HYq := hid hYq
        have HK := hid hkl
        clear hY hYd hYq hkl
        go_upto_region 8 with (go_at_call 30; refine (PI'.out _ (HS.out.below Hbr.out (Nat.le_refl _)) (HG.out.later Hbr.out)).mono ?_; rintro e w3 ⟨⟨u, rfl, hown⟩, hb3⟩)
        have Hb3 := hid (bth Hb.out hb3)
        have HB3 := hid (bth HB2.out Hb3.out)
        have Hown := hid hown
        obtain ⟨ua, uc, rfl, huc⟩ := ownsRow_form hown
        have HU := hid (SlAt.of_owns (size := 32) (hs := P) hown HPk.out)
        have HL3 := hid (HS.out.below HB3.out (Nat.le_refl _))
        have HR3 := hid (HR2.out.later Hb3.out); have HX3 := hid (HX2.out.later Hb3.out)
        obtain ⟨la, lo, ha, hlb⟩ := HS.out.addr (by rw [hcs_length]; have := HK.out; omega)
        subst ha
        have Yc := hid (show ∀ w', Below w3.heap.size w3 w' → ∀ j z, (Y.map bcell)[j]? = some z → w'.cell? ((⟨la, lo + k * 32, none⟩ : Addr).add j) = some z from fun w' hw' => by
          obtain ⟨b', o', e1, _, _, h3⟩ := (HL3.out.below hw' (Nat.le_refl _)).at (i := k) (cs := Y.map bcell) (by unfold hcs; rw [List.getElem?_map, HYq.out]; rfl)
          injection e1 with e1
          injection e1 with e2 e3
          subst e2; subst e3
          exact h3)
        have Rc := hid (show ∀ w', Below w3.heap.size w3 w' → ∀ j z, (R.map bcell)[j]? = some z → w'.cell? ((⟨gr, 0, none⟩ : Addr).add j) = some z from fun w' hw' j z hz => (HR3.out.later hw').cells j z (by rw [hc_toList]; exact hz))
        have Xc := hid (show ∀ w', Below w3.heap.size w3 w' → ∀ j z, (x.map bcell)[j]? = some z → w'.cell? ((⟨w.heap.size, 0, none⟩ : Addr).add j) = some z from fun w' hw' j z hz => (HX3.out.later hw').cells j z (by rw [hc_toList]; exact hz))
        have Sy := hid (show (Tryd.prog.info? 25).map (·.size) = some Y.length by rw [HY.out]; exact Tryd.sizeHash)
        have hkn := HK.out
        have h12 : decide ((12 : Int) < (P.length : Int)) = false := by simp; omega
        have K1 := hid (fun q : Later w3 => check_any Y (k : Int) (hs.length : Int) (.slice ua P.length uc) P R (lat q) HY.out HRl.out (by omega) (HU.out.below (lat_below q) (Nat.le_refl _)) (HG.out.later (bth HB3.out (lat_below q))))
        rw [Hc0.out] at K1
        clear hown hb3 hlb
        refine wp_region_later (by kernel_rfl) (by kernel_rfl) ?_
        repeat (first
          | (refine wpQuiet_load_hcG rfl 25 _ rfl ⟨la, lo + k * 32, none⟩ rfl Y _ (by rintro _ ⟨q, rfl⟩; exact Yc.out _ (lat_below q)) Tryd.underlying25 rfl Sy.out ?_; simp only [Act.put, List.setIfInBounds_toArray, List.set_cons_succ, List.set_cons_zero])
          | (refine wpQuiet_load_hcG rfl 25 _ rfl ⟨gr, 0, none⟩ rfl R _ (by rintro _ ⟨q, rfl⟩; exact Rc.out _ (lat_below q)) Tryd.underlying25 rfl SR.out ?_; simp only [Act.put, List.setIfInBounds_toArray, List.set_cons_succ, List.set_cons_zero])
          | go_big_quiet_step ((first | (go_at_call 33; with_reducible exact calls_later (K1.out _)))))
        refine wpQuiet_nil ?_
        rintro _ ⟨q4, rfl⟩
        have hb4 := lat_below q4
        generalize lat q4 = w4 at *
        go_upto_region 10 with fail
        have Hb4 := hid (bth Hb3.out hb4)
        obtain ⟨j0, hj0, hz0, hz1, hz2⟩ := info_parts Tryd.infoHash
        have SX := hid (show (Tryd.prog.info? 25).map (·.size) = some x.length by rw [Hx.out]; exact Tryd.sizeHash)
        clear K1
        refine wp_region_anyC (by kernel_rfl) ?_
        intro w5 he5 hb5
        have Hc5 := hid hb5
        have Hb5 := hid (bth hb4 hb5)
        clear he5
        show wpAnyC _ _ _ _ _ 15 (Array.replicate 15 false) _ _
        refine wpAnyC_take (i := 0) (v := .slice (some ⟨la, lo, none⟩) hs.length cap) rfl (by kernel_rfl) (by kernel_rfl) (by kernel_rfl) (fun _ _ _ h => h) (Or.inl ⟨by rfl, ?_⟩) ?_
        · intro w _
          go_simp
          try exact IntWalk.i64_in _ (by omega)
          try omega
        (try dsimp only [List.getElem_toArray, List.getElem_cons_succ, List.getElem_cons_zero]); (try go_frame)
        refine wpAnyC_take (i := 1) (v := .int .i64 (k : Int)) rfl (by kernel_rfl) (by kernel_rfl) (by kernel_rfl) (fun _ _ _ h => h) (Or.inl ⟨by rfl, ?_⟩) ?_
        · intro w _
          go_simp
          try exact IntWalk.i64_in _ (by omega)
          try omega
        (try dsimp only [List.getElem_toArray, List.getElem_cons_succ, List.getElem_cons_zero]); (try go_frame)
        refine wpAnyC_take (i := 2) (v := .pointer (some ⟨la, lo + k * 32, none⟩)) rfl (by kernel_rfl) (by kernel_rfl) (by kernel_rfl) (fun _ _ _ h => h) (Or.inl ⟨by rfl, ?_⟩) ?_
        · intro w _
          go_simp
          try exact IntWalk.i64_in _ (by omega)
          try omega
        (try dsimp only [List.getElem_toArray, List.getElem_cons_succ, List.getElem_cons_zero]); (try go_frame)
        refine wpAnyC_take (i := 3) (v := hv Y) rfl (by kernel_rfl) (by kernel_rfl) (by kernel_rfl) (fun _ _ _ h => h) (YieldsW.load_hc (by rfl) 25 _ rfl ⟨la, lo + k * 32, none⟩ rfl Y _ (fun w' hw' => Yc.out w' (bth hb4 hw')) Tryd.underlying25 rfl Sy.out) ?_
        (try dsimp only [List.getElem_toArray, List.getElem_cons_succ, List.getElem_cons_zero]); (try go_frame)
        refine wpAnyC_take (i := 4) (v := .int .i64 (k : Int)) rfl (by kernel_rfl) (by kernel_rfl) (by kernel_rfl) (fun _ _ _ h => h) (Or.inl ⟨by rfl, ?_⟩) ?_
        · intro w _
          go_simp
          try exact IntWalk.i64_in _ (by omega)
          try omega
        (try dsimp only [List.getElem_toArray, List.getElem_cons_succ, List.getElem_cons_zero]); (try go_frame)
        refine wpAnyC_take (i := 5) (v := .slice (some ⟨la, lo, none⟩) hs.length cap) rfl (by kernel_rfl) (by kernel_rfl) (by kernel_rfl) (fun _ _ _ h => h) (Or.inl ⟨by rfl, ?_⟩) ?_
        · intro w _
          go_simp
          try exact IntWalk.i64_in _ (by omega)
          try omega
        (try dsimp only [List.getElem_toArray, List.getElem_cons_succ, List.getElem_cons_zero]); (try go_frame)
        refine wpAnyC_take (i := 6) (v := .int .i64 (hs.length : Int)) rfl (by kernel_rfl) (by kernel_rfl) (by kernel_rfl) (fun _ _ _ h => h) (Or.inl ⟨by rfl, ?_⟩) ?_
        · intro w _
          go_simp
          try exact IntWalk.i64_in _ (by omega)
          try omega
        (try dsimp only [List.getElem_toArray, List.getElem_cons_succ, List.getElem_cons_zero]); (try go_frame)
        refine wpAnyC_take (i := 7) (v := .slice ua P.length uc) rfl (by kernel_rfl) (by kernel_rfl) (by kernel_rfl) (fun _ _ _ h => h) (Or.inl ⟨by rfl, ?_⟩) ?_
        · intro w _
          go_simp
          try exact IntWalk.i64_in _ (by omega)
          try omega
        (try dsimp only [List.getElem_toArray, List.getElem_cons_succ, List.getElem_cons_zero]); (try go_frame)
        refine wpAnyC_take (i := 9) (v := hv x) rfl (by kernel_rfl) (by kernel_rfl) (by kernel_rfl) (fun _ _ _ h => h) (YieldsW.load_hc (by rfl) 25 _ rfl ⟨w.heap.size, 0, none⟩ rfl x _ (fun w' hw' => Xc.out w' (bth hb4 hw')) Tryd.underlying25 rfl SX.out) ?_
        (try dsimp only [List.getElem_toArray, List.getElem_cons_succ, List.getElem_cons_zero]); (try go_frame)
        refine wpAnyC_take (i := 12) (v := hv R) rfl (by kernel_rfl) (by kernel_rfl) (by kernel_rfl) (fun _ _ _ h => h) (YieldsW.load_hc (by rfl) 25 _ rfl ⟨gr, 0, none⟩ rfl R _ (fun w' hw' => Rc.out w' (bth hb4 hw')) Tryd.underlying25 rfl SR.out) ?_
        (try dsimp only [List.getElem_toArray, List.getElem_cons_succ, List.getElem_cons_zero]); (try go_frame)
        refine wpAnyC_all (rs := [8, 10]) (by kernel_rfl) (by simp) Hc5.out ?_
        intro z hz
        rcases (show z = 8 ∨ z = 10 by simpa using hz) with rfl | rfl
        ·
          refine wpOp_list rfl ?_
          (try dsimp only [List.getElem_toArray, List.getElem_cons_succ, List.getElem_cons_zero]); (try go_frame)
          refine wpList_clone rfl _ _ 22 rfl 25 j0 (hv zero32) Tryd.underlying22 hj0 hz0 hz1 hz2 rfl rfl wr.heap.size P.length (.slice ua P.length uc) rfl P rfl (Hown.out.later (bth hb4 hb5)) HPk.out (by omega) ?_
          intro vA w6 HA hbA
          refine wpList_nil ?_
          show wpAnyC _ _ _ _ _ _ _ _ _
          (try dsimp only [List.getElem_toArray, List.getElem_cons_succ, List.getElem_cons_zero]); (try go_frame)
          have Hc6 := hid (bth Hc5.out hbA)
          refine wpAnyC_forced (i := 10) (by kernel_rfl) rfl (Hc6.out) ?_
          (try dsimp only [List.getElem_toArray, List.getElem_cons_succ, List.getElem_cons_zero]); (try go_frame)
          refine wpList_buildSlice_hs (by rfl) 22 25 1 _ rfl (hv zero32) [x] (by simp only [List.map_toArray, List.map_cons, List.map_nil]; rfl) rfl (by decide) (by decide) (by intro y hy; simp at hy; rw [hy]; exact Hx.out) Tryd.underlying22 Tryd.infoHash2 ?_
          intro w7 HBl hbB
          refine wpList_nil ?_
          show wpAnyC _ _ _ _ _ _ _ _ _
          (try dsimp only [List.getElem_toArray, List.getElem_cons_succ, List.getElem_cons_zero]); (try go_frame)
          have Hc7 := hid (bth Hc6.out hbB)
          have HA7 := hid ((HA.later hbB).rebase (base' := w5.heap.size) (Nat.le_refl _))
          obtain ⟨gB, hgb⟩ : ∃ gB, w6.heap.size = gB := ⟨_, rfl⟩
          rw [hgb] at HBl
          simp only [hgb]
          clear hgb
          have hbs7 : w5.heap.size ≤ w7.heap.size := ((bth hbA hbB).size)
          have HbB := hid HBl
          clear HBl
          refine wpAnyC_forced (i := 11) (by kernel_rfl) rfl (Hc7.out) ?_
          (try dsimp only [List.getElem_toArray, List.getElem_cons_succ, List.getElem_cons_zero]); (try go_frame)
          refine wpList_app rfl _ _ 22 rfl w5.heap.size 25 j0 (hv zero32) 32 32 Tryd.underlying22 hj0 hz0 hz1 hz2 rfl (by decide) vA P.length (hflat P) rfl HA7.out ⟨gB, 0, none⟩ 1 1 (x.map bcell) rfl (by rw [List.length_map, Hx.out]) (fun j z hz => HbB.out.cells j z (by rw [List.toList_toArray]; simpa [hflat] using hz)) (bcell_one x) (by unfold maxLen; omega) (by omega) hbs7 ?_
          intro vC w8 hC hgC hatC
          refine wpList_nil ?_
          show wpAnyC _ _ _ _ _ _ _ _ _
          (try dsimp only [List.getElem_toArray, List.getElem_cons_succ, List.getElem_cons_zero]); (try go_frame)
          have Hc58 := hid ((bth hbA hbB).grown hgC hbs7 (fun q hq => (HA7.out.lt q hq).1))
          have Hc8 := hid (bth Hc5.out Hc58.out)
          have HCs := hid (SlAt.of_owns (size := 32) (hs := P ++ [x]) (by rw [List.length_append, hflat_snoc]; exact hC) (fun y hy => by rcases List.mem_append.1 hy with h1 | h1; exact HPk.out y h1; rw [List.mem_singleton.1 h1]; exact Hx.out))
          have Hb8 := hid (bth hb4 Hc8.out)
          have K2 := hid (check_any Y (k : Int) (hs.length : Int) vC (P ++ [x]) R w8 HY.out HRl.out (by rw [List.length_append, List.length_singleton]; omega) HCs.out (HG.out.later (bth HB3.out Hb8.out)))
          rw [Hlg.out Y R (P ++ [x]) (by rw [List.length_append, List.length_singleton]; omega)] at K2
          refine wpAnyC_forced (i := 13) (by kernel_rfl) rfl (Hc8.out) ?_
          (try dsimp only [List.getElem_toArray, List.getElem_cons_succ, List.getElem_cons_zero]); (try go_frame)
          go_wp2_with (go_at_call 33; refine K2.out.mono ?_; rintro e w9 ⟨rfl, hb9⟩)
          show wpAnyC _ _ _ _ _ _ _ _ _
          have Hc9 := hid (bth Hc8.out hb9)
          refine wpAnyC_take (i := 14) (v := .bool false) rfl (by kernel_rfl) (by kernel_rfl) (by kernel_rfl) (fun _ _ _ h => h) (Or.inl ⟨by rfl, ?_⟩) ?_
          · intro w _
            go_simp
            try exact IntWalk.i64_in _ (by omega)
            try omega
          (try dsimp only [List.getElem_toArray, List.getElem_cons_succ, List.getElem_cons_zero]); (try go_frame)
          refine wpAnyC_done (by kernel_rfl) Hc9.out ?_ _
          have Hb9 := hid (bth hb4 Hc9.out)
          clear hb9 K2 HCs hC hgC hatC HA7 HbB HA
          go_upto_region 12 with fail
          by_cases h0 : 0 < P.length
          · have hd0 : decide (0 < P.length) = true := by simpa using h0
            obtain ⟨ug, uc2, e1, _, _, huc2, _⟩ := ownsRow_some Hown.out h0
            have hU9 := HU.out.below Hb9.out (Nat.le_refl _)
            rw [e1] at hU9
            injection e1 with e1 _ e2
            subst e1; subst e2
            by_cases hc1 : uc = 1
            · subst hc1
              have hD := hid (show SlAt w9 32 (.slice (some ⟨ug, 0, none⟩) (P.length - 1) 0) (hcs (P.drop 1)) from by rw [List.drop_eq_nil_of_le (by omega), show P.length - 1 = 0 by omega]; exact slEmpty _ _ _)
              have hT := hid (show SlAt w9 32 (.slice (some ⟨ug, 0, none⟩) (P.length - 1) 1) (hcs (P.take (P.length - 1))) from by
                have := hU9.takeS (P.length - 1) (by rw [hcs_length]; omega)
                rwa [hcs_take] at this)
              have HB9 := hid (bth HB3.out Hb9.out)
              have Lg1 := Hlg.out Y R (P.drop 1) (by rw [List.length_drop]; omega)
              have Lg2 := Hlg.out Y R (P.take (P.length - 1)) (by rw [List.length_take]; omega)
              have K3 := hid (fun q : Later w9 => check_any Y (k : Int) (hs.length : Int) (.slice (some ⟨ug, 0, none⟩) (P.length - 1) 0) (P.drop 1) R (lat q) HY.out HRl.out (by rw [List.length_drop]; omega) (hD.out.below (lat_below q) (Nat.le_refl _)) (HG.out.later (bth HB9.out (lat_below q))))
              have K4 := hid (fun q : Later w9 => check_any Y (k : Int) (hs.length : Int) (.slice (some ⟨ug, 0, none⟩) (P.length - 1) 1) (P.take (P.length - 1)) R (lat q) HY.out HRl.out (by rw [List.length_take]; omega) (hT.out.below (lat_below q) (Nat.le_refl _)) (HG.out.later (bth HB9.out (lat_below q))))
              rw [Lg1] at K3
              rw [Lg2] at K4
              clear Lg1 Lg2 hU9
              obtain ⟨m, hm⟩ : ∃ m, P.length - 1 = m := ⟨_, rfl⟩
              have em : (P.length : Int) - 1 = (m : Int) := by omega
              have hmu : (m : Int) ≤ (1 : Int) := by omega
              rw [hm] at K3 K4
              refine wp_region_later (by kernel_rfl) (by kernel_rfl) ?_
              repeat (first
                | (refine wpQuiet_load_hcG rfl 25 _ rfl ⟨la, lo + k * 32, none⟩ rfl Y _ (by rintro _ ⟨q, rfl⟩; exact Yc.out _ (bth Hb9.out (lat_below q))) Tryd.underlying25 rfl Sy.out ?_; simp only [Act.put, List.setIfInBounds_toArray, List.set_cons_succ, List.set_cons_zero])
                | (refine wpQuiet_load_hcG rfl 25 _ rfl ⟨gr, 0, none⟩ rfl R _ (by rintro _ ⟨q, rfl⟩; exact Rc.out _ (bth Hb9.out (lat_below q))) Tryd.underlying25 rfl SR.out ?_; simp only [Act.put, List.setIfInBounds_toArray, List.set_cons_succ, List.set_cons_zero])
                | go_big_quiet_step ((first | (go_at_call 33; with_reducible exact calls_later (K3.out _)) | (go_at_call 33; with_reducible exact calls_later (K4.out _)))))
              refine wpQuiet_nil ?_
              rintro _ ⟨q10, rfl⟩
              have hb10 := lat_below q10
              generalize lat q10 = w10 at *
              go_wp2
              go_roundw
              case rel => exact ⟨k + 1, HK.out, by go_num, bth (bth Hb3.out Hb9.out) hb10⟩
              case measure => have := HK.out; simp [intOf]; omega
            · have hD := hid (show SlAt w9 32 (.slice (some ⟨ug, 32, none⟩) (P.length - 1) (uc - 1)) (hcs (P.drop 1)) from by
                  by_cases h1 : 1 < P.length
                  · have := hU9.dropS 1 (by rw [hcs_length]; exact h1)
                    rw [hcs_drop] at this
                    simpa using this
                  · rw [List.drop_eq_nil_of_le (by omega), show P.length - 1 = 0 by omega]; exact slEmpty _ _ _)
              have hT := hid (show SlAt w9 32 (.slice (some ⟨ug, 0, none⟩) (P.length - 1) uc) (hcs (P.take (P.length - 1))) from by
                have := hU9.takeS (P.length - 1) (by rw [hcs_length]; omega)
                rwa [hcs_take] at this)
              have HB9 := hid (bth HB3.out Hb9.out)
              have Lg1 := Hlg.out Y R (P.drop 1) (by rw [List.length_drop]; omega)
              have Lg2 := Hlg.out Y R (P.take (P.length - 1)) (by rw [List.length_take]; omega)
              have K3 := hid (fun q : Later w9 => check_any Y (k : Int) (hs.length : Int) (.slice (some ⟨ug, 32, none⟩) (P.length - 1) (uc - 1)) (P.drop 1) R (lat q) HY.out HRl.out (by rw [List.length_drop]; omega) (hD.out.below (lat_below q) (Nat.le_refl _)) (HG.out.later (bth HB9.out (lat_below q))))
              have K4 := hid (fun q : Later w9 => check_any Y (k : Int) (hs.length : Int) (.slice (some ⟨ug, 0, none⟩) (P.length - 1) uc) (P.take (P.length - 1)) R (lat q) HY.out HRl.out (by rw [List.length_take]; omega) (hT.out.below (lat_below q) (Nat.le_refl _)) (HG.out.later (bth HB9.out (lat_below q))))
              rw [Lg1] at K3
              rw [Lg2] at K4
              clear Lg1 Lg2 hU9
              obtain ⟨m, hm⟩ : ∃ m, P.length - 1 = m := ⟨_, rfl⟩
              have em : (P.length : Int) - 1 = (m : Int) := by omega
              have hmu : (m : Int) ≤ (uc : Int) := by omega
              rw [hm] at K3 K4
              refine wp_region_later (by kernel_rfl) (by kernel_rfl) ?_
              repeat (first
                | (refine wpQuiet_load_hcG rfl 25 _ rfl ⟨la, lo + k * 32, none⟩ rfl Y _ (by rintro _ ⟨q, rfl⟩; exact Yc.out _ (bth Hb9.out (lat_below q))) Tryd.underlying25 rfl Sy.out ?_; simp only [Act.put, List.setIfInBounds_toArray, List.set_cons_succ, List.set_cons_zero])
                | (refine wpQuiet_load_hcG rfl 25 _ rfl ⟨gr, 0, none⟩ rfl R _ (by rintro _ ⟨q, rfl⟩; exact Rc.out _ (bth Hb9.out (lat_below q))) Tryd.underlying25 rfl SR.out ?_; simp only [Act.put, List.setIfInBounds_toArray, List.set_cons_succ, List.set_cons_zero])
                | go_big_quiet_step ((first | (go_at_call 33; with_reducible exact calls_later (K3.out _)) | (go_at_call 33; with_reducible exact calls_later (K4.out _)))))
              refine wpQuiet_nil ?_
              rintro _ ⟨q10, rfl⟩
              have hb10 := lat_below q10
              generalize lat q10 = w10 at *
              go_wp2
              go_roundw
              case rel => exact ⟨k + 1, HK.out, by go_num, bth (bth Hb3.out Hb9.out) hb10⟩
              case measure => have := HK.out; simp [intOf]; omega
          · have hd0 : decide (0 < P.length) = false := by simpa using h0
            have Hrel := hid (bth Hb3.out Hb9.out)
            clear h0
            refine wp_region_later (by kernel_rfl) (by kernel_rfl) ?_
            repeat go_big_quiet_step (fail)
            refine wpQuiet_nil ?_
            rintro _ ⟨q10, rfl⟩
            have hb10 := lat_below q10
            generalize lat q10 = w10 at *
            go_wp2
            go_roundw
            case rel => exact ⟨k + 1, HK.out, by go_num, bth Hrel.out hb10⟩
            case measure => have := HK.out; simp [intOf]; omega
        ·
          refine wpOp_list rfl ?_
          (try dsimp only [List.getElem_toArray, List.getElem_cons_succ, List.getElem_cons_zero]); (try go_frame)
          refine wpList_buildSlice_hs (by rfl) 22 25 1 _ rfl (hv zero32) [x] (by simp only [List.map_toArray, List.map_cons, List.map_nil]; rfl) rfl (by decide) (by decide) (by intro y hy; simp at hy; rw [hy]; exact Hx.out) Tryd.underlying22 Tryd.infoHash2 ?_
          intro w6 HBl hbB
          refine wpList_nil ?_
          show wpAnyC _ _ _ _ _ _ _ _ _
          (try dsimp only [List.getElem_toArray, List.getElem_cons_succ, List.getElem_cons_zero]); (try go_frame)
          have Hc6 := hid (bth Hc5.out hbB)
          refine wpAnyC_forced (i := 8) (by kernel_rfl) rfl (Hc6.out) ?_
          (try dsimp only [List.getElem_toArray, List.getElem_cons_succ, List.getElem_cons_zero]); (try go_frame)
          refine wpList_clone rfl _ _ 22 rfl 25 j0 (hv zero32) Tryd.underlying22 hj0 hz0 hz1 hz2 rfl rfl wr.heap.size P.length (.slice ua P.length uc) rfl P rfl (Hown.out.later (bth (bth hb4 hb5) hbB)) HPk.out (by omega) ?_
          intro vA w7 HA hbA
          refine wpList_nil ?_
          show wpAnyC _ _ _ _ _ _ _ _ _
          (try dsimp only [List.getElem_toArray, List.getElem_cons_succ, List.getElem_cons_zero]); (try go_frame)
          have Hc7 := hid (bth Hc6.out hbA)
          have HA7 := hid (HA.rebase (base' := w5.heap.size) hbB.size)
          replace HBl := HBl.later hbA
          have hbs7 : w5.heap.size ≤ w7.heap.size := ((bth hbB hbA).size)
          have HbB := hid HBl
          clear HBl
          refine wpAnyC_forced (i := 11) (by kernel_rfl) rfl (Hc7.out) ?_
          (try dsimp only [List.getElem_toArray, List.getElem_cons_succ, List.getElem_cons_zero]); (try go_frame)
          refine wpList_app rfl _ _ 22 rfl w5.heap.size 25 j0 (hv zero32) 32 32 Tryd.underlying22 hj0 hz0 hz1 hz2 rfl (by decide) vA P.length (hflat P) rfl HA7.out ⟨w5.heap.size, 0, none⟩ 1 1 (x.map bcell) rfl (by rw [List.length_map, Hx.out]) (fun j z hz => HbB.out.cells j z (by rw [List.toList_toArray]; simpa [hflat] using hz)) (bcell_one x) (by unfold maxLen; omega) (by omega) hbs7 ?_
          intro vC w8 hC hgC hatC
          refine wpList_nil ?_
          show wpAnyC _ _ _ _ _ _ _ _ _
          (try dsimp only [List.getElem_toArray, List.getElem_cons_succ, List.getElem_cons_zero]); (try go_frame)
          have Hc58 := hid ((bth hbB hbA).grown hgC hbs7 (fun q hq => (HA7.out.lt q hq).1))
          have Hc8 := hid (bth Hc5.out Hc58.out)
          have HCs := hid (SlAt.of_owns (size := 32) (hs := P ++ [x]) (by rw [List.length_append, hflat_snoc]; exact hC) (fun y hy => by rcases List.mem_append.1 hy with h1 | h1; exact HPk.out y h1; rw [List.mem_singleton.1 h1]; exact Hx.out))
          have Hb8 := hid (bth hb4 Hc8.out)
          have K2 := hid (check_any Y (k : Int) (hs.length : Int) vC (P ++ [x]) R w8 HY.out HRl.out (by rw [List.length_append, List.length_singleton]; omega) HCs.out (HG.out.later (bth HB3.out Hb8.out)))
          rw [Hlg.out Y R (P ++ [x]) (by rw [List.length_append, List.length_singleton]; omega)] at K2
          refine wpAnyC_forced (i := 13) (by kernel_rfl) rfl (Hc8.out) ?_
          (try dsimp only [List.getElem_toArray, List.getElem_cons_succ, List.getElem_cons_zero]); (try go_frame)
          go_wp2_with (go_at_call 33; refine K2.out.mono ?_; rintro e w9 ⟨rfl, hb9⟩)
          show wpAnyC _ _ _ _ _ _ _ _ _
          have Hc9 := hid (bth Hc8.out hb9)
          refine wpAnyC_take (i := 14) (v := .bool false) rfl (by kernel_rfl) (by kernel_rfl) (by kernel_rfl) (fun _ _ _ h => h) (Or.inl ⟨by rfl, ?_⟩) ?_
          · intro w _
            go_simp
            try exact IntWalk.i64_in _ (by omega)
            try omega
          (try dsimp only [List.getElem_toArray, List.getElem_cons_succ, List.getElem_cons_zero]); (try go_frame)
          refine wpAnyC_done (by kernel_rfl) Hc9.out ?_ _
          have Hb9 := hid (bth hb4 Hc9.out)
          clear hb9 K2 HCs hC hgC hatC HA7 HbB HA
          go_upto_region 12 with fail
          by_cases h0 : 0 < P.length
          · have hd0 : decide (0 < P.length) = true := by simpa using h0
            obtain ⟨ug, uc2, e1, _, _, huc2, _⟩ := ownsRow_some Hown.out h0
            have hU9 := HU.out.below Hb9.out (Nat.le_refl _)
            rw [e1] at hU9
            injection e1 with e1 _ e2
            subst e1; subst e2
            by_cases hc1 : uc = 1
            · subst hc1
              have hD := hid (show SlAt w9 32 (.slice (some ⟨ug, 0, none⟩) (P.length - 1) 0) (hcs (P.drop 1)) from by rw [List.drop_eq_nil_of_le (by omega), show P.length - 1 = 0 by omega]; exact slEmpty _ _ _)
              have hT := hid (show SlAt w9 32 (.slice (some ⟨ug, 0, none⟩) (P.length - 1) 1) (hcs (P.take (P.length - 1))) from by
                have := hU9.takeS (P.length - 1) (by rw [hcs_length]; omega)
                rwa [hcs_take] at this)
              have HB9 := hid (bth HB3.out Hb9.out)
              have Lg1 := Hlg.out Y R (P.drop 1) (by rw [List.length_drop]; omega)
              have Lg2 := Hlg.out Y R (P.take (P.length - 1)) (by rw [List.length_take]; omega)
              have K3 := hid (fun q : Later w9 => check_any Y (k : Int) (hs.length : Int) (.slice (some ⟨ug, 0, none⟩) (P.length - 1) 0) (P.drop 1) R (lat q) HY.out HRl.out (by rw [List.length_drop]; omega) (hD.out.below (lat_below q) (Nat.le_refl _)) (HG.out.later (bth HB9.out (lat_below q))))
              have K4 := hid (fun q : Later w9 => check_any Y (k : Int) (hs.length : Int) (.slice (some ⟨ug, 0, none⟩) (P.length - 1) 1) (P.take (P.length - 1)) R (lat q) HY.out HRl.out (by rw [List.length_take]; omega) (hT.out.below (lat_below q) (Nat.le_refl _)) (HG.out.later (bth HB9.out (lat_below q))))
              rw [Lg1] at K3
              rw [Lg2] at K4
              clear Lg1 Lg2 hU9
              obtain ⟨m, hm⟩ : ∃ m, P.length - 1 = m := ⟨_, rfl⟩
              have em : (P.length : Int) - 1 = (m : Int) := by omega
              have hmu : (m : Int) ≤ (1 : Int) := by omega
              rw [hm] at K3 K4
              refine wp_region_later (by kernel_rfl) (by kernel_rfl) ?_
              repeat (first
                | (refine wpQuiet_load_hcG rfl 25 _ rfl ⟨la, lo + k * 32, none⟩ rfl Y _ (by rintro _ ⟨q, rfl⟩; exact Yc.out _ (bth Hb9.out (lat_below q))) Tryd.underlying25 rfl Sy.out ?_; simp only [Act.put, List.setIfInBounds_toArray, List.set_cons_succ, List.set_cons_zero])
                | (refine wpQuiet_load_hcG rfl 25 _ rfl ⟨gr, 0, none⟩ rfl R _ (by rintro _ ⟨q, rfl⟩; exact Rc.out _ (bth Hb9.out (lat_below q))) Tryd.underlying25 rfl SR.out ?_; simp only [Act.put, List.setIfInBounds_toArray, List.set_cons_succ, List.set_cons_zero])
                | go_big_quiet_step ((first | (go_at_call 33; with_reducible exact calls_later (K3.out _)) | (go_at_call 33; with_reducible exact calls_later (K4.out _)))))
              refine wpQuiet_nil ?_
              rintro _ ⟨q10, rfl⟩
              have hb10 := lat_below q10
              generalize lat q10 = w10 at *
              go_wp2
              go_roundw
              case rel => exact ⟨k + 1, HK.out, by go_num, bth (bth Hb3.out Hb9.out) hb10⟩
              case measure => have := HK.out; simp [intOf]; omega
            · have hD := hid (show SlAt w9 32 (.slice (some ⟨ug, 32, none⟩) (P.length - 1) (uc - 1)) (hcs (P.drop 1)) from by
                  by_cases h1 : 1 < P.length
                  · have := hU9.dropS 1 (by rw [hcs_length]; exact h1)
                    rw [hcs_drop] at this
                    simpa using this
                  · rw [List.drop_eq_nil_of_le (by omega), show P.length - 1 = 0 by omega]; exact slEmpty _ _ _)
              have hT := hid (show SlAt w9 32 (.slice (some ⟨ug, 0, none⟩) (P.length - 1) uc) (hcs (P.take (P.length - 1))) from by
                have := hU9.takeS (P.length - 1) (by rw [hcs_length]; omega)
                rwa [hcs_take] at this)
              have HB9 := hid (bth HB3.out Hb9.out)
              have Lg1 := Hlg.out Y R (P.drop 1) (by rw [List.length_drop]; omega)
              have Lg2 := Hlg.out Y R (P.take (P.length - 1)) (by rw [List.length_take]; omega)
              have K3 := hid (fun q : Later w9 => check_any Y (k : Int) (hs.length : Int) (.slice (some ⟨ug, 32, none⟩) (P.length - 1) (uc - 1)) (P.drop 1) R (lat q) HY.out HRl.out (by rw [List.length_drop]; omega) (hD.out.below (lat_below q) (Nat.le_refl _)) (HG.out.later (bth HB9.out (lat_below q))))
              have K4 := hid (fun q : Later w9 => check_any Y (k : Int) (hs.length : Int) (.slice (some ⟨ug, 0, none⟩) (P.length - 1) uc) (P.take (P.length - 1)) R (lat q) HY.out HRl.out (by rw [List.length_take]; omega) (hT.out.below (lat_below q) (Nat.le_refl _)) (HG.out.later (bth HB9.out (lat_below q))))
              rw [Lg1] at K3
              rw [Lg2] at K4
              clear Lg1 Lg2 hU9
              obtain ⟨m, hm⟩ : ∃ m, P.length - 1 = m := ⟨_, rfl⟩
              have em : (P.length : Int) - 1 = (m : Int) := by omega
              have hmu : (m : Int) ≤ (uc : Int) := by omega
              rw [hm] at K3 K4
              refine wp_region_later (by kernel_rfl) (by kernel_rfl) ?_
              repeat (first
                | (refine wpQuiet_load_hcG rfl 25 _ rfl ⟨la, lo + k * 32, none⟩ rfl Y _ (by rintro _ ⟨q, rfl⟩; exact Yc.out _ (bth Hb9.out (lat_below q))) Tryd.underlying25 rfl Sy.out ?_; simp only [Act.put, List.setIfInBounds_toArray, List.set_cons_succ, List.set_cons_zero])
                | (refine wpQuiet_load_hcG rfl 25 _ rfl ⟨gr, 0, none⟩ rfl R _ (by rintro _ ⟨q, rfl⟩; exact Rc.out _ (bth Hb9.out (lat_below q))) Tryd.underlying25 rfl SR.out ?_; simp only [Act.put, List.setIfInBounds_toArray, List.set_cons_succ, List.set_cons_zero])
                | go_big_quiet_step ((first | (go_at_call 33; with_reducible exact calls_later (K3.out _)) | (go_at_call 33; with_reducible exact calls_later (K4.out _)))))
              refine wpQuiet_nil ?_
              rintro _ ⟨q10, rfl⟩
              have hb10 := lat_below q10
              generalize lat q10 = w10 at *
              go_wp2
              go_roundw
              case rel => exact ⟨k + 1, HK.out, by go_num, bth (bth Hb3.out Hb9.out) hb10⟩
              case measure => have := HK.out; simp [intOf]; omega
          · have hd0 : decide (0 < P.length) = false := by simpa using h0
            have Hrel := hid (bth Hb3.out Hb9.out)
            clear h0
            refine wp_region_later (by kernel_rfl) (by kernel_rfl) ?_
            repeat go_big_quiet_step (fail)
            refine wpQuiet_nil ?_
            rintro _ ⟨q10, rfl⟩
            have hb10 := lat_below q10
            generalize lat q10 = w10 at *
            go_wp2
            go_roundw
            case rel => exact ⟨k + 1, HK.out, by go_num, bth Hrel.out hb10⟩
            case measure => have := HK.out; simp [intOf]; omega
      · obtain rfl : k = hs.length := by omega
        have hdk : decide (hs.length < hs.length) = false := by simp
        go_wp2_with fail
        refine (found_any _ (HG.out.later Hbr.out)).mono ?_
        rintro e w8 ⟨rfl, hb8⟩
        go_wp2
        go_ret
        exact ⟨rfl, bth Hbr.out hb8⟩
end Go.Proofs.YtdllaenbkfajdaaDoor
