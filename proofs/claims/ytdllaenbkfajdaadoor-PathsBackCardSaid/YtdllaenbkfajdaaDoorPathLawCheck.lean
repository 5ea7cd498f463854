/- the law PathsCheck: the walk -/
import Derived.Test.YtdllaenbkfajdaaDoorPathLawPath
import Derived.Laws.Bits128
set_option maxRecDepth 100000
namespace Go.Spec
open Go.RowKit
theorem i64_and4095 (n : Int) : bits .and .i64 n 4095 = n % 4096 := by
  have h : (BitVec.ofInt 64 4095).toNat = 2 ^ 12 - 1 := by decide
  have key : (BitVec.ofInt 64 n &&& BitVec.ofInt 64 4095).toNat = (n % ((2 ^ 64 : Nat) : Int)).toNat % 2 ^ 12 := by
    rw [BitVec.toNat_and, BitVec.toNat_ofInt, h, Nat.and_two_pow_sub_one_eq_mod]
  show IntKind.i64.wrap ((BitVec.ofInt 64 n &&& BitVec.ofInt 64 4095).toNat : Nat) = n % 4096
  rw [key, IntKind.wrap_i64]
  omega
/-- a claim's cells -/
def claimC (a r : List UInt8) (i n : Int) : Array Value := (a.map bcell ++ r.map bcell ++ [Value.int .i64 i, Value.int .i64 n]).toArray
theorem claim_leaf (a r : List UInt8) (i n : Int) : ∀ j (hj : j < a.length), (claimC a r i n)[0 + j]? = some (bcell a[j]) := by
  intro j hj
  simp [claimC, hj, List.getElem?_append]
theorem claim_root (a r : List UInt8) (i n : Int) (ha : a.length = 32) : ∀ j (hj : j < r.length), (claimC a r i n)[32 + j]? = some (bcell r[j]) := by
  intro j hj
  simp [claimC, List.getElem?_append, ha, hj]
theorem claim_i (a r : List UInt8) (i n : Int) (ha : a.length = 32) (hr : r.length = 32) : (claimC a r i n)[64]? = some (.int .i64 i) := by
  simp [claimC, List.getElem?_append, ha, hr]
theorem claim_n (a r : List UInt8) (i n : Int) (ha : a.length = 32) (hr : r.length = 32) : (claimC a r i n)[65]? = some (.int .i64 n) := by
  simp [claimC, List.getElem?_append, ha, hr]
end Go.Spec
namespace Go.Proofs.YtdllaenbkfajdaaDoor
open Go.RowKit Go.Spec
theorem check_own (l : List (List UInt8)) (i : Nat) (hi : i < l.length) (hl : l.length ≤ 4096) : checkE (l.getD i []) (i : Int) (l.length : Int) (pathL l i) (rootL l) = 0 := by
  unfold checkE
  have h : ¬ chkOut (i : Int) (l.length : Int) := by unfold chkOut; omega
  rw [if_neg h, Int.toNat_natCast, Int.toNat_natCast, check_path l i hi]; rfl
set_option maxHeartbeats 8000000 in
theorem pathsCheck_law (a r : List UInt8) (I N : Int) (v : Value) (hs : List (List UInt8)) (x : List UInt8) (w : World) (ha : a.length = 32) (hr : r.length = 32) (hS : SlAt w 32 v (hcs hs)) (hl : hs.length ≤ 9223372036854775807) (hx : x.length = 32) (hG : ShaG w) :
    Calls Tryd.prog 10 #[.agg (claimC a r I N), v, hv x] w fun e w' => e = .returned (.bool true) ∧ Below w.heap.size w w' := by
  have HG := hid hG; clear hG
  have HB : Below w.heap.size w ((w.alloc (.cells (claimC a r I N) 49)).alloc (.cells (hc x) 25)) := ((Below.refl _ w).alloc (Nat.le_refl _) _).alloc (by simp) _
  have hC : Blk ((w.alloc (.cells (claimC a r I N) 49)).alloc (.cells (hc x) 25)) w.heap.size (claimC a r I N) 49 := (Blk.new _ _ _).alloc _
  have hX : Blk ((w.alloc (.cells (claimC a r I N) 49)).alloc (.cells (hc x) 25)) (w.heap.size + 1) (hc x) 25 := Blk.new' _ _ _ (by simp)
  have HCl := hid (claim_leaf a r I N)
  have HCr := hid (claim_root a r I N ha)
  have HCi := hid (claim_i a r I N ha hr)
  have HCn := hid (claim_n a r I N ha hr)
  have hszC : (claimC a r I N).size = 66 := by simp [claimC, ha, hr]
  generalize claimC a r I N = CC at *
  have hSv := hS
  obtain ⟨pa, pc, rfl, hpc⟩ := hSv.formH
  clear hSv
  by_cases h1 : 80 < hs.length
  · have hd : decide ((80 : Int) < (hs.length : Int)) = true := by simp; omega
    clear h1 hS hC hX
    go_enter Tryd.func10, Tryd.ntmps10
    go_wp2_with (go_at_call 29; refine (found_any _ (HG.out.later HB)).mono ?_; rintro e w1 ⟨rfl, hb⟩)
    go_ret
    exact ⟨rfl, bth HB hb⟩
  · have hd : decide ((80 : Int) < (hs.length : Int)) = false := by simp; omega
    have hn80 : hs.length ≤ 80 := by omega
    have HS := hid hS
    have HBx := hid HB; have HCb := hid hC; have HXb := hid hX
    have Ha := hid ha; have Hr := hid hr; have Hx := hid hx
    have Sa := hid (show (Tryd.prog.info? 25).map (·.size) = some a.length by rw [ha]; exact Tryd.sizeHash)
    have Sr := hid (show (Tryd.prog.info? 25).map (·.size) = some r.length by rw [hr]; exact Tryd.sizeHash)
    generalize hw0 : ((w.alloc (.cells CC 49)).alloc (.cells (hc x) 25)) = w0 at *
    have Hw0 := hid hw0
    clear h1 hS hl hC hX HB hw0 ha hr hx
    go_enter Tryd.func10, Tryd.ntmps10
    go_upto_region 1 with fail
    show Code.wp _ _ _ _ ((w.alloc (.cells CC 49)).alloc (.cells (hc x) 25))
    rw [Hw0.out]
    go_upto_region 3 with fail
    have hgl : w.heap.size < w0.heap.size := HCb.out.lt
    have ci := fun q : Later w0 => (lat_cell q w.heap.size 64 hgl).trans ((HCb.out.cell 64).trans HCi.out)
    have cn := fun q : Later w0 => (lat_cell q w.heap.size 65 hgl).trans ((HCb.out.cell 65).trans HCn.out)
    have Lf := hid (fun q : Later w0 => (HCb.out.later (lat_below q)).part 0 a HCl.out)
    have Rf := hid (fun q : Later w0 => (HCb.out.later (lat_below q)).part 32 r HCr.out)
    have K1 := hid (fun q : Later w0 => check_any a I N (.slice pa hs.length pc) hs r (lat q) Ha.out Hr.out (by omega) (HS.out.below (bth HBx.out (lat_below q)) (Nat.le_refl _)) (HG.out.later (bth HBx.out (lat_below q))))
    have K2 := hid (fun q : Later w0 => rcheck_any a I N (.slice pa hs.length pc) hs r (lat q) Ha.out Hr.out (by omega) (HS.out.below (bth HBx.out (lat_below q)) (Nat.le_refl _)))
    generalize checkE a I N hs r = E1 at *
    have he1 : (E1 != E1) = false := by simp
    refine wp_region_later (by kernel_rfl) (by kernel_rfl) ?_
    repeat (first
      | (refine wpQuiet_load_hcG rfl 25 _ rfl ⟨w.heap.size, 0, none⟩ rfl a _ (by rintro _ ⟨q, rfl⟩; exact Lf.out q) Tryd.underlying25 rfl Sa.out ?_; simp only [Act.put, List.setIfInBounds_toArray, List.set_cons_succ, List.set_cons_zero])
      | (refine wpQuiet_load_hcG rfl 25 _ rfl ⟨w.heap.size, 32, none⟩ rfl r _ (by rintro _ ⟨q, rfl⟩; exact Rf.out q) Tryd.underlying25 rfl Sr.out ?_; simp only [Act.put, List.setIfInBounds_toArray, List.set_cons_succ, List.set_cons_zero])
      | go_big_quiet_step ((first | (go_at_call 33; with_reducible exact calls_later (K1.out _)) | (go_at_call 34; with_reducible exact calls_later (K2.out _)))))
    refine wpQuiet_nil ?_
    rintro _ ⟨q1, rfl⟩
    have hb1 := lat_below q1
    generalize lat q1 = w1 at *
    clear ci cn Lf Rf K1 K2 he1
    have HB1 := hid (bth HBx.out hb1)
    have HC1 := hid (HCb.out.later hb1); have HX1 := hid (HXb.out.later hb1)
    clear hb1 HBx HCb HXb hgl Hw0
    obtain ⟨n0, hn0⟩ : ∃ n0 : Nat, N % 4096 = n0 := ⟨(N % 4096).toNat, by omega⟩
    obtain ⟨i0, hi0⟩ : ∃ i0 : Nat, I % 4096 = i0 := ⟨(I % 4096).toNat, by omega⟩
    have handN : bits .and .i64 N 4095 = (n0 : Int) := (i64_and4095 N).trans hn0
    have handI : bits .and .i64 I 4095 = (i0 : Int) := (i64_and4095 I).trans hi0
    have hn0b : n0 < 4096 := by omega
    clear hn0 hi0
    obtain ⟨m, hm⟩ : ∃ m, 1 + n0 = m := ⟨_, rfl⟩
    have em : 1 + (n0 : Int) = (m : Int) := by omega
    have hm1 : 1 ≤ m := by omega
    have hm2 : m ≤ 4096 := by omega
    obtain ⟨ii, hii⟩ : ∃ ii, i0 % m = ii := ⟨_, rfl⟩
    have hilt : ii < m := by rw [← hii]; exact Nat.mod_lt _ (by omega)
    have ei : (i0 : Int) % (m : Int) = (ii : Int) := by rw [← hii]; simp
    obtain ⟨seed, hseed⟩ : ∃ s : UInt8, I % 256 = (s.toNat : Int) := ⟨UInt8.ofNat (I % 256).toNat, by rw [UInt8.toNat_ofNat_of_lt' (by simp [UInt8.size]; omega)]; omega⟩
    have eS : IntKind.u8.wrap I = (seed.toNat : Int) := by rw [← hseed]; simp [IntKind.wrap, IntKind.signed, IntKind.bits]
    have ci : w1.cell? ⟨w.heap.size, 64, none⟩ = some (.int .i64 I) := (HC1.out.cell 64).trans HCi.out
    have cn : w1.cell? ⟨w.heap.size, 65, none⟩ = some (.int .i64 N) := (HC1.out.cell 65).trans HCn.out
    have HS := hid (HS.out.below HB1.out (Nat.le_refl _))
    clear hii hm hn0b
    go_wp2_with fail
    refine (some_sl seed m _ (by omega)).mono ?_
    rintro e w2 ⟨vl, rfl, hSl, hb2⟩
    obtain ⟨la, lc, rfl, hlc⟩ := hSl.formH
    rw [someL_len] at hSl hlc ⊢
    have HSl := hid hSl
    have HL32 := hid (someL_32 seed m)
    have HLl := hid (someL_len seed m)
    have HB2 := hid (bth HB1.out hb2)
    have HC2 := hid (HC1.out.later hb2); have HX2 := hid (HX1.out.later hb2)
    have HS2 := hid (HS.out.below hb2 (Nat.le_refl _))
    have Hei := hid ei
    clear hSl hb2 ci cn HS HC1 HX1 HB1 eS handN handI em ei hseed
    generalize someL seed m = L at *
    go_upto_if 55 with fail
    go_cut [7, 8, 9] (fun s7 s8 s9 wx => wx = w2 ∧ ∃ (L' : List (List UInt8)) (i' : Nat) (a' : Option Addr) (c' : Nat), s7 = .int .i64 (L'.length : Int) ∧ s8 = .int .i64 (i' : Int) ∧ s9 = .slice a' L'.length c' ∧ i' < L'.length ∧ L'.length ≤ 300 ∧ SlAt w2 32 (.slice a' L'.length c') (hcs L'))
    case first =>
      by_cases h3 : 300 < m
      · have hd3 : decide ((300 : Int) < (m : Int)) = true := by simp; omega
        have h3c : (300 : Int) ≤ (lc : Int) := by omega
        obtain ⟨i3, hi3⟩ : ∃ i3, ii % 300 = i3 := ⟨_, rfl⟩
        have e3 : (i0 : Int) % (m : Int) % 300 = (i3 : Int) := by rw [Hei.out]; omega
        have hi3l : i3 < 300 := by omega
        have hTk := HSl.out.takeS 300 (by rw [hcs_length, HLl.out]; omega)
        rw [hcs_take] at hTk
        have hTl : (L.take 300).length = 300 := by rw [List.length_take, HLl.out]; omega
        have HT := hid hTk; have HTl := hid hTl
        clear hi3 hTk hTl
        go_wp2_with fail
        go_meet
        exact ⟨rfl, L.take 300, i3, la, lc, by rw [HTl.out]; rfl, by first | rfl | rw [e3], by rw [HTl.out], by rw [HTl.out]; exact hi3l, by rw [HTl.out]; exact Nat.le_refl _, by rw [HTl.out]; exact HT.out⟩
      · have hd3 : decide ((300 : Int) < (m : Int)) = false := by simp; omega
        go_wp2_with fail
        go_meet
        exact ⟨rfl, L, ii, la, lc, by rw [HLl.out], by rw [Hei.out], by rw [HLl.out], by rw [HLl.out]; exact hilt, by rw [HLl.out]; omega, by rw [HLl.out]; exact HSl.out⟩
    case rest =>
      obtain ⟨rfl, L', i', a', c', rfl, rfl, rfl, hi', hL3, hSL⟩ := hcut
      have hL32 := hSL.len32
      have HLs := hid hSL
      have HL32 := hid hL32
      have hpl := path_len L' i' 9 hi' (by omega)
      have Hown0 := hid (check_own L' i' hi' (by omega))
      have RP := hid (rpath_at L'.length L' (.slice a' L'.length c') i' wc (Nat.le_refl _) (by omega) hSL hi')
      have RT := hid (fun w0 h hG0 => root_any L' (.slice a' L'.length c') w0 (by omega) hG0 h)
      have hRl := rootL_len _ L' (Nat.le_refl _) hL32
      have HP32 := hid (path_32 L'.length L' i' (Nat.le_refl _) hL32)
      obtain ⟨lb, lo, rfl, hlb⟩ := hSL.addr (by rw [hcs_length]; omega)
      obtain ⟨Y, hY⟩ : ∃ Y, L'[i'] = Y := ⟨_, rfl⟩
      have hYq : L'[i']? = some Y := by rw [List.getElem?_eq_getElem hi', hY]
      have hYd : L'.getD i' [] = Y := by rw [List.getD_eq_getElem?_getD, hYq]; rfl
      have hYl := hL32 Y (List.mem_of_getElem? hYq)
      rw [hYd] at Hown0
      generalize pathL L' i' = P at *
      generalize hRt : rootL L' = R at *
      clear hRt hY hYd hSL hL32
      have HYl := hid hYl; have HRl := hid hRl
      have Sy := hid (show (Tryd.prog.info? 25).map (·.size) = some Y.length by rw [hYl]; exact Tryd.sizeHash)
      have SR := hid (show (Tryd.prog.info? 25).map (·.size) = some R.length by rw [hRl]; exact Tryd.sizeHash)
      clear hYl hRl
      go_upto_region 12 with (go_at_call 31; refine RP.out.mono ?_; rintro e w3 ⟨⟨u, rfl, hown⟩, hb3⟩)
      have Hown := hid hown; have Hb3 := hid hb3
      clear hown hb3
      go_upto_region 13 with (first
        | (go_at_call 13; refine (RT.out _ (HLs.out.below Hb3.out (Nat.le_refl _)) (HG.out.later (bth HB2.out Hb3.out))).mono ?_; rintro e w4 ⟨rfl, hb4⟩)
        | ((with_reducible show wpList _ _ _ ({ dst := _, op := Op.store _ _ _, type := _, pos := _, after := _, guard := _ } :: _) _ (World.alloc w4 _)); refine wpList_store_new rfl 25 _ _ rfl rfl R rfl (hc zero32) 25 (by rw [HRl.out]; rfl) SR.out ?_))
      show Code.wp _ _ _ _ (w4.alloc (.cells (hc R) 25))
      have hb34 := bth Hb3.out hb4
      have Hb5 := hid (hb34.alloc hb34.size (.cells (hc R) 25))
      have HR5 := hid (Blk.new w4 (hc R) 25)
      have Hown5 := hid ((Hown.out.later hb4).alloc (.cells (hc R) 25))
      clear hb4 hb34 Hown Hb3 RP RT
      generalize w4.alloc (.cells (hc R) 25) = w5 at *
      generalize w4.heap.size = gr at *
      have hglw : w.heap.size < wc.heap.size := HC2.out.lt
      have hgl5 : w.heap.size < w5.heap.size := Nat.lt_of_lt_of_le hglw Hb5.out.size
      have HC5 := hid (HC2.out.later Hb5.out); have HX5 := hid (HX2.out.later Hb5.out)
      have HB5 := hid (bth HB2.out Hb5.out)
      have HU5 := hid (SlAt.of_owns (size := 32) (hs := P) Hown5.out HP32.out)
      obtain ⟨ua, uc', rfl, huc⟩ := HU5.out.formH
      have HS5 := hid (HS2.out.below Hb5.out (Nat.le_refl _))
      have HL5 := hid (HLs.out.below Hb5.out (Nat.le_refl _))
      have Yc := hid (show ∀ w', Below w5.heap.size w5 w' → ∀ j z, (Y.map bcell)[j]? = some z → w'.cell? ((⟨lb, lo + i' * 32, none⟩ : Addr).add j) = some z from fun w' hw' => by
        obtain ⟨b', o', e1, _, _, h3⟩ := (HL5.out.below hw' (Nat.le_refl _)).at (i := i') (cs := Y.map bcell) (by unfold hcs; rw [List.getElem?_map, hYq]; rfl)
        injection e1 with e1
        injection e1 with e2 e3
        subst e2; subst e3
        exact h3)
      have Ac := hid (show ∀ w', Below w5.heap.size w5 w' → ∀ j z, (a.map bcell)[j]? = some z → w'.cell? ((⟨w.heap.size, 0, none⟩ : Addr).add j) = some z from fun w' hw' => (HC5.out.later hw').part 0 a HCl.out)
      have Rc := hid (show ∀ w', Below w5.heap.size w5 w' → ∀ j z, (R.map bcell)[j]? = some z → w'.cell? ((⟨gr, 0, none⟩ : Addr).add j) = some z from fun w' hw' j z hz => (HR5.out.later hw').cells j z (by rw [hc_toList]; exact hz))
      have Hx : Hid (x.length = 32) := Hx
      clear HLs HS2 HC2 HX2 HB2 hYq hglw hlb
      have K1 := hid (fun q : Later w5 => check_any Y (i' : Int) (L'.length : Int) (.slice ua P.length uc') P R (lat q) HYl.out HRl.out (by omega) (HU5.out.below (lat_below q) (Nat.le_refl _)) (HG.out.later (bth HB5.out (lat_below q))))
      rw [Hown0.out] at K1
      have K2 := hid (fun q : Later w5 => check_any a (i' : Int) (L'.length : Int) (.slice ua P.length uc') P R (lat q) Ha.out HRl.out (by omega) (HU5.out.below (lat_below q) (Nat.le_refl _)) (HG.out.later (bth HB5.out (lat_below q))))
      have K2r := hid (fun q : Later w5 => rcheck_any a (i' : Int) (L'.length : Int) (.slice ua P.length uc') P R (lat q) Ha.out HRl.out (by omega) (HU5.out.below (lat_below q) (Nat.le_refl _)))
      have K3 := hid (fun q : Later w5 => check_any Y (i' : Int) (L'.length : Int) (.slice pa hs.length pc) hs R (lat q) HYl.out HRl.out (by omega) (HS5.out.below (lat_below q) (Nat.le_refl _)) (HG.out.later (bth HB5.out (lat_below q))))
      have K3r := hid (fun q : Later w5 => rcheck_any Y (i' : Int) (L'.length : Int) (.slice pa hs.length pc) hs R (lat q) HYl.out HRl.out (by omega) (HS5.out.below (lat_below q) (Nat.le_refl _)))
      generalize checkE a (i' : Int) (L'.length : Int) P R = E2 at *
      generalize checkE Y (i' : Int) (L'.length : Int) hs R = E3 at *
      have he2 : (E2 != E2) = false := by simp
      have he3 : (E3 != E3) = false := by simp
      simp only [Act.put]
      refine wp_region_later (by kernel_rfl) (by kernel_rfl) ?_
      repeat (first
        | (refine wpQuiet_load_hcG rfl 25 _ rfl ⟨w.heap.size, 0, none⟩ rfl a _ (by rintro _ ⟨q, rfl⟩; exact Ac.out _ (lat_below q)) Tryd.underlying25 rfl Sa.out ?_; simp only [Act.put, List.setIfInBounds_toArray, List.set_cons_succ, List.set_cons_zero])
        | (refine wpQuiet_load_hcG rfl 25 _ rfl ⟨lb, lo + i' * 32, none⟩ rfl Y _ (by rintro _ ⟨q, rfl⟩; exact Yc.out _ (lat_below q)) Tryd.underlying25 rfl Sy.out ?_; simp only [Act.put, List.setIfInBounds_toArray, List.set_cons_succ, List.set_cons_zero])
        | (refine wpQuiet_load_hcG rfl 25 _ rfl ⟨gr, 0, none⟩ rfl R _ (by rintro _ ⟨q, rfl⟩; exact Rc.out _ (lat_below q)) Tryd.underlying25 rfl SR.out ?_; simp only [Act.put, List.setIfInBounds_toArray, List.set_cons_succ, List.set_cons_zero])
        | go_big_quiet_step ((first | (go_at_call 33; with_reducible exact calls_later (K1.out _)) | (go_at_call 33; with_reducible exact calls_later (K2.out _)) | (go_at_call 33; with_reducible exact calls_later (K3.out _)) | (go_at_call 34; with_reducible exact calls_later (K2r.out _)) | (go_at_call 34; with_reducible exact calls_later (K3r.out _)))))
      refine wpQuiet_nil ?_
      rintro _ ⟨q6, rfl⟩
      have hb6 := lat_below q6
      generalize lat q6 = w6 at *
      clear K1 K2 K2r K3 K3r he2 he3
      go_wp2_with fail
      obtain ⟨j0, hj0, hz0, hz1, hz2⟩ := info_parts Tryd.infoHash
      go_loopw [13] (fun i wr => ∃ k : Nat, k ≤ P.length ∧ i = .int .i64 (k : Int) ∧ Below w5.heap.size w5 wr) (fun i _ => P.length - (intOf i).toNat)
      case atStart => exact ⟨0, by omega, rfl, hb6⟩
      case round =>
        obtain ⟨k, hk, rfl, hb⟩ := hrel
        have HBr := hid (bth HB5.out hb)
        have Hb := hid hb
        by_cases hkl : k < P.length
        · have hdk : decide (k < P.length) = true := by simpa using hkl
          obtain ⟨ug, uc2, e1, hug, hugl, huc2, hucell⟩ := ownsRow_some (Hown5.out.later hb) (by omega)
          have E1x := hid e1
          have Huc := hid hucell
          clear e1
          have HP := hid hkl
          have Hfl := hid (flatten_len HP32.out)
          clear hucell hkl hb hb6
          go_upto_region 19 with (at_builtin; go_must (refine wpList_app rfl _ _ 22 rfl wr.heap.size 25 j0 (hv zero32) 32 32 Tryd.underlying22 hj0 hz0 hz1 hz2 rfl (by decide) (.slice none 0 0) 0 [] rfl (World.ownsRow_nil _ _ _ _) ⟨ug, 0, none⟩ P.length uc2 (hflat P) E1x.out ?c2 Huc.out ?c4 ?c5 ?c6 (Nat.le_refl _) ?_))
          case c2 => unfold hflat; rw [List.length_map]; exact Hfl.out
          case c4 => exact bcell_one _
          case c5 => unfold maxLen; omega
          case c6 => omega
          intro v' w8 hown8 hg8 hat8
          try rw [Nat.zero_add, List.nil_append] at hown8
          obtain ⟨g', q', rfl, hgb, hgl8, hq', _⟩ := ownsRow_some hown8 (by have := HP.out; omega)
          have Hb8 := hid ((Below.refl wr.heap.size wr).grown hg8 (Nat.le_refl _) (fun q hq => by simp [Value.ownBlock] at hq))
          have Hown8 := hid hown8
          clear hown8 hg8 hat8
          have HX8 := hid (HX5.out.later (bth Hb.out Hb8.out))
          have Sx := hid (show (Tryd.prog.info? 25).map (·.size) = some (hc x).size by rw [hc_size, Hx.out]; exact Tryd.sizeHash)
          go_upto_region 20 with (first
            | ((with_reducible show wpList _ _ _ ({ dst := _, op := Op.load 25 _, type := _, pos := _, after := _, guard := _ } :: _) _ _); refine wpList_load_blk rfl 25 _ rfl (w.heap.size + 1) rfl _ (hc x) _ HX8.out Tryd.underlying25 rfl Sx.out ?_)
            | ((with_reducible show wpList _ _ _ ({ dst := _, op := Op.store _ _ _, type := _, pos := _, after := _, guard := _ } :: _) _ _); refine wpList_store_own rfl 25 _ _ rfl wr.heap.size 25 g' q' P.length k rfl x rfl P Hown8.out HP32.out rfl Hx.out HP.out Tryd.sizeHash ?_; intro w9 Hown9 hg9))
          simp only [Act.put]
          have Hb9 := hid (Hb8.out.grown hg9 Hb8.out.size (fun q hq => by injection hq with hq; omega))
          have Hb59 := hid (bth Hb.out Hb9.out)
          have HP32k := hid (mem_set32 (k := k) HP32.out Hx.out)
          have HU9 := hid (SlAt.of_owns (size := 32) (hs := P.set k x) (by rw [List.length_set]; exact Hown9) HP32k.out)
          have hPk : (P.set k x).length ≤ 1000000 := by rw [List.length_set]; omega
          have K4 := hid (fun q : Later w9 => check_any Y (i' : Int) (L'.length : Int) (.slice (some ⟨g', 0, none⟩) P.length q') (P.set k x) R (lat q) HYl.out HRl.out hPk (HU9.out.below (lat_below q) (Nat.le_refl _)) (HG.out.later (bth (bth HB5.out Hb59.out) (lat_below q))))
          have K4r := hid (fun q : Later w9 => rcheck_any Y (i' : Int) (L'.length : Int) (.slice (some ⟨g', 0, none⟩) P.length q') (P.set k x) R (lat q) HYl.out HRl.out hPk (HU9.out.below (lat_below q) (Nat.le_refl _)))
          clear hg9 Hown9 hPk
          generalize checkE Y (i' : Int) (L'.length : Int) (P.set k x) R = E4 at *
          have he4 : (E4 != E4) = false := by simp
          refine wp_region_later (by kernel_rfl) (by kernel_rfl) ?_
          repeat (first
            | (refine wpQuiet_load_hcG rfl 25 _ rfl ⟨lb, lo + i' * 32, none⟩ rfl Y _ (by rintro _ ⟨q, rfl⟩; exact Yc.out _ (bth Hb59.out (lat_below q))) Tryd.underlying25 rfl Sy.out ?_; simp only [Act.put, List.setIfInBounds_toArray, List.set_cons_succ, List.set_cons_zero])
            | (refine wpQuiet_load_hcG rfl 25 _ rfl ⟨gr, 0, none⟩ rfl R _ (by rintro _ ⟨q, rfl⟩; exact Rc.out _ (bth Hb59.out (lat_below q))) Tryd.underlying25 rfl SR.out ?_; simp only [Act.put, List.setIfInBounds_toArray, List.set_cons_succ, List.set_cons_zero])
            | go_big_quiet_step ((first | (go_at_call 33; with_reducible exact calls_later (K4.out _)) | (go_at_call 34; with_reducible exact calls_later (K4r.out _)))))
          refine wpQuiet_nil ?_
          rintro _ ⟨q12, rfl⟩
          have hb12 := lat_below q12
          generalize lat q12 = w12 at *
          clear K4 K4r he4
          go_wp2
          go_roundw
          case rel => have := HP.out; exact ⟨k + 1, by omega, by go_num, bth Hb59.out hb12⟩
          case measure => have := HP.out; simp [intOf]; omega
        · obtain rfl : k = P.length := by omega
          have hdk : decide (P.length < P.length) = false := by simp
          go_wp2_with fail
          refine (found_any _ (HG.out.later HBr.out)).mono ?_
          rintro e w8 ⟨rfl, hb8⟩
          go_wp2
          go_ret
          exact ⟨rfl, bth HBr.out hb8⟩
end Go.Proofs.YtdllaenbkfajdaaDoor
