/- the law TilesProve: the walk -/
import Derived.Test.YtbpjlancjdbehaaDoorQPCheckM
import Derived.Test.YtbpjlancjdbehaaDoorQPathCheck
import Derived.Test.YtbpjlancjdbehaaDoorQTileLawTell

set_option maxRecDepth 100000
namespace Go.Proofs.YtbpjlancjdbehaaDoor
open Go.RowKit Go.Spec
theorem check_holds (l : List (List UInt8)) (i : Nat) (hi : i < l.length) (hl : l.length ≤ 4096) : checkE (l.getD i []) (i : Int) (l.length : Int) (pathL l i) (rootL l) = 0 := by
  unfold checkE
  have h : ¬ chkOut (i : Int) (l.length : Int) := by unfold chkOut; omega
  rw [if_neg h, Int.toNat_natCast, Int.toNat_natCast, check_path l i hi]; rfl
theorem trootX_nat (l : List (List UInt8)) (n : Nat) (h : n ≤ l.length) : trootX l (n : Int) = rootL (l.take n) := by
  unfold trootX; rw [if_pos ⟨by omega, by omega⟩, Int.toNat_natCast]
theorem withE_nat (l : List (List UInt8)) (n : Nat) (h : n ≤ l.length) : withE l (n : Int) = 0 := by
  unfold withE; rw [if_pos ⟨by omega, by omega⟩]
theorem withE_more (l : List (List UInt8)) (n : Int) (h : l.length < n) : withE l n = 82 := by
  unfold withE; rw [if_neg (by omega)]
theorem tpathX_nat (l : List (List UInt8)) (i n : Nat) (h : n ≤ l.length) (hi : i < n) : tpathX l (i : Int) (n : Int) = pathL (l.take n) i := by
  unfold tpathX; rw [if_pos (by unfold tpIn; omega), Int.toNat_natCast, Int.toNat_natCast]
theorem tpathE_nat (l : List (List UInt8)) (i n : Nat) (h : n ≤ l.length) (hi : i < n) : tpathE l (i : Int) (n : Int) = 0 := by
  unfold tpathE; rw [if_pos (by unfold tpIn; omega)]
theorem tpathE_self (l : List (List UInt8)) (n : Nat) : tpathE l (n : Int) (n : Int) = 82 := by
  unfold tpathE; rw [if_neg (by unfold tpIn; omega)]
theorem tproofE_nat (l : List (List UInt8)) (i n : Nat) (h : n ≤ l.length) (hi : i ≤ n) : tproofE l (i : Int) (n : Int) = 0 := by
  unfold tproofE; rw [if_pos (by unfold tqIn; omega)]
theorem tproofX_nat (l : List (List UInt8)) (i n : Nat) (h : n ≤ l.length) (hi : i ≤ n) : tproofX l (i : Int) (n : Int) = proofL (l.take n) i := by
  have hl : (l.take n).length = n := by rw [List.length_take]; omega
  unfold tproofX proofL
  by_cases h0 : i = 0
  · rw [if_neg (by omega), if_pos (.inl h0)]
  · rw [if_pos ⟨by unfold tqIn; omega, by omega⟩, Int.toNat_natCast, Int.toNat_natCast]
    by_cases h1 : i = n
    · rw [if_pos (.inr (by omega)), show i = (l.take n).length by omega, sub_all _ _ (by omega)]; rfl
    · rw [if_neg (by omega)]
theorem troot_nat (g tb : Nat) (hs : List (List UInt8)) (k : Nat) (w : World) (hk : k ≤ hs.length) (h0 : TilesAt w g tb hs) (h1 : ShaG w) :
    Calls Tryd.prog 14 #[.pointer (some ⟨g, 0, none⟩), .int .i64 (k : Int)] w fun e w' => e = .returned (.tuple #[hv (rootL (hs.take k)), .int .i64 0]) ∧ Below w.heap.size w w' := by
  have h := troott_any g tb hs (k : Int) w h0 h1
  rwa [trootX_nat hs k hk, withE_nat hs k hk] at h
theorem tpath_nat (g tb : Nat) (hs : List (List UInt8)) (k M : Nat) (w : World) (hM : M ≤ hs.length) (hk : k < M) (h0 : TilesAt w g tb hs) (h1 : ShaG w) :
    Calls Tryd.prog 16 #[.pointer (some ⟨g, 0, none⟩), .int .i64 (k : Int), .int .i64 (M : Int)] w fun e w' => (∃ u, e = .returned (.tuple #[u, .int .i64 0]) ∧ SlAt w' 32 u (hcs (pathL (hs.take M) k))) ∧ Below w.heap.size w w' := by
  have h := tpath_any g tb hs (k : Int) (M : Int) w h0 h1
  rwa [tpathX_nat hs k M hM hk, tpathE_nat hs k M hM hk] at h
theorem tproof_nat (g tb : Nat) (hs : List (List UInt8)) (k M : Nat) (w : World) (hM : M ≤ hs.length) (hk : k ≤ M) (h0 : TilesAt w g tb hs) (h1 : ShaG w) :
    Calls Tryd.prog 18 #[.pointer (some ⟨g, 0, none⟩), .int .i64 (k : Int), .int .i64 (M : Int)] w fun e w' => (∃ u, e = .returned (.tuple #[u, .int .i64 0]) ∧ SlAt w' 32 u (hcs (proofL (hs.take M) k))) ∧ Below w.heap.size w w' := by
  have h := tproof_any g tb hs (k : Int) (M : Int) w h0 h1
  rwa [tproofX_nat hs k M hM hk, tproofE_nat hs k M hM hk] at h
theorem check_nat (hs : List (List UInt8)) (k M : Nat) (Y : List UInt8) (u : Value) (w : World) (hM : M ≤ hs.length) (hl : M ≤ 60) (hk : k < M) (hY : hs[k]? = some Y) (h32 : ∀ x ∈ hs, x.length = 32) (hS : SlAt w 32 u (hcs (pathL (hs.take M) k))) (hG : ShaG w) :
    Calls Tryd.prog 26 #[hv Y, .int .i64 (k : Int), .int .i64 (M : Int), u, hv (rootL (hs.take M))] w fun e w' => e = .returned (.int .i64 0) ∧ Below w.heap.size w w' := by
  have hlt : (hs.take M).length = M := by rw [List.length_take]; omega
  have e := check_holds (hs.take M) k (by omega) (by omega)
  rw [hlt, show (hs.take M).getD k [] = Y by rw [List.getD_eq_getElem?_getD, List.getElem?_take_of_lt hk, hY]; rfl] at e
  have := check_any Y (k : Int) (M : Int) u (pathL (hs.take M) k) (rootL (hs.take M)) w (h32 Y (List.mem_of_getElem? hY)) (rootL_len _ (hs.take M) (Nat.le_refl _) (fun x hx => h32 x (List.mem_of_mem_take hx))) (by have := path_len (hs.take M) k 6 (by omega) (by omega); omega) hS hG
  rwa [e] at this
theorem pcheck_nat (hs : List (List UInt8)) (k M : Nat) (u : Value) (w : World) (hM : M ≤ hs.length) (hl : M ≤ 60) (hk : k ≤ M) (h32 : ∀ x ∈ hs, x.length = 32) (hS : SlAt w 32 u (hcs (proofL (hs.take M) k))) (hG : ShaG w) :
    Calls Tryd.prog 27 #[.int .i64 (k : Int), .int .i64 (M : Int), hv (rootL (hs.take k)), hv (rootL (hs.take M)), u] w fun e w' => e = .returned (.int .i64 0) ∧ Below w.heap.size w w' := by
  have hlt : (hs.take M).length = M := by rw [List.length_take]; omega
  have := pcheck_ok (hs.take M) k u w (by omega) (by omega) (fun x hx => h32 x (List.mem_of_mem_take hx)) hS hG
  rwa [hlt, List.take_take, Nat.min_eq_left hk] at this
set_option maxHeartbeats 8000000 in
theorem tilesProve_law (v : Value) (hs : List (List UInt8)) (n i : Nat) (w : World) (hS : SlAt w 32 v (hcs hs)) (hlm : hs.length ≤ 9223372036854775807) (hn : n < 256) (hi : i < 256) (hG : ShaG w) :
    Calls Tryd.prog 7 #[v, .int .u8 (n : Int), .int .u8 (i : Int)] w fun e w' => e = .returned (.bool true) ∧ Below w.heap.size w w' := by
  have HG := hid hG; clear hG
  have TD := hid (tiled_any)
  obtain ⟨ad, cap, rfl, hcap⟩ := hS.formH
  by_cases h : 60 < hs.length
  · have hd : decide ((60 : Int) < (hs.length : Int)) = true := by simp; omega
    have HT := hid (TD.out w HG.out)
    clear h hS hlm
    go_enter Tryd.func7, Tryd.ntmps7
    go_wp2_with (go_at_call 10; refine HT.out.mono ?_; rintro e w1 ⟨rfl, hb1⟩)
    go_ret
    exact ⟨rfl, hb1⟩
  · have hd : decide ((60 : Int) < (hs.length : Int)) = false := by simp; omega
    have OF := hid (of_any _ hs w (by omega) hS HG.out)
    have HS := hid hS
    have hl60 : hs.length ≤ 60 := by omega
    have hs3 := Tryd.sizeHash
    have hs5 := Tryd.sizeU8
    have hge := Tryd.guardHash3
    clear h hS hlm hcap
    go_enter Tryd.func7, Tryd.ntmps7
    go_upto_region 6 with (go_at_call 11; refine OF.out.mono ?_; rintro e w2 ⟨⟨g, tb, rfl, hT2, hg2, htb2⟩, hb2⟩)
    have HB2 := hid hb2
    have Hl2 := hid (show Liv w2 g tb hs [] [(.slice ad hs.length cap, hs)] from ⟨hT2, HG.out.later HB2.out, by simp, fun q hq => by rw [List.mem_singleton.1 hq]; exact HS.out.below HB2.out (Nat.le_refl _)⟩)
    clear hT2 hg2 htb2 hb2 OF
    go_cut [9] (fun p wx => ∃ M : Nat, p = .int .i64 (M : Int) ∧ M ≤ hs.length ∧ w2 = wx)
    case first =>
      go_wp2_with fail
      go_meet
      exact ⟨n % (hs.length + 1), by go_num, Nat.le_of_lt_succ (Nat.mod_lt _ (by omega)), rfl⟩
    case rest =>
      obtain ⟨M, rfl, hM, rfl⟩ := hcut
      have Hr32 := hid Hl2.out.ti.r32
      have hlt : (hs.take M).length = M := by rw [List.length_take]; omega
      obtain ⟨a2, c2, hsl, hS2⟩ := HS.out.takeR 22 29 Tryd.underlying22 Tryd.sizeHash (M : Int) M rfl (by rw [hcs_length]; omega)
      rw [hcs_take] at hS2
      have HS2 := hid hS2
      have hR := rootL_len _ (hs.take M) (Nat.le_refl _) (fun x hx => Hr32.out x (List.mem_of_mem_take hx))
      have TR := hid (fun w0 h0 h1 => troot_nat g tb hs M w0 hM h0 h1)
      have RR := hid (fun w0 h0 h1 => root_any (hs.take M) (.slice a2 M c2) w0 (by omega) h0 h1)
      have TP := hid (fun (k : Nat) (hk : k < M) w0 h0 h1 => tpath_nat g tb hs k M w0 hM hk h0 h1)
      have CK := hid (fun (k : Nat) (hk : k < M) Y u w0 hY h0 h1 => check_nat hs k M Y u w0 hM (by omega) hk hY Hr32.out h0 h1)
      have TRk := hid (fun (k : Nat) (hk : k ≤ M) w0 h0 h1 => troot_nat g tb hs k w0 (by omega) h0 h1)
      have TQk := hid (fun (k : Nat) (hk : k ≤ M) w0 h0 h1 => tproof_nat g tb hs k M w0 hM hk h0 h1)
      have PK := hid (fun (k : Nat) (hk : k ≤ M) u w0 h0 h1 => pcheck_nat hs k M u w0 hM (by omega) hk Hr32.out h0 h1)
      have HRk := hid (fun k => rootL_len _ (hs.take k) (Nat.le_refl _) (fun x hx => Hr32.out x (List.mem_of_mem_take hx)))
      have TPM := hid (fun w0 h0 h1 => tpath_any g tb hs (M : Int) (M : Int) w0 h0 h1)
      rw [tpathE_self] at TPM
      have TRM := hid (fun w0 h0 h1 => troott_any g tb hs ((hs.length : Int) + 1 + (i : Int)) w0 h0 h1)
      rw [withE_more hs _ (by omega)] at TRM
      have hRM := trootX_32 Hr32.out ((hs.length : Int) + 1 + (i : Int))
      generalize trootX hs ((hs.length : Int) + 1 + (i : Int)) = RM at *
      have HRM := hid hRM
      have SRM := hid (show (Tryd.prog.info? 29).map (·.size) = some RM.length by rw [hRM]; exact Tryd.sizeHash)
      clear hRM hlt hS2
      generalize rootL (hs.take M) = R at *
      have HR := hid hR
      have SR := hid (show (Tryd.prog.info? 29).map (·.size) = some R.length by rw [hR]; exact Tryd.sizeHash)
      clear hR
      go_upto_region 8 with (first
        | (go_at_call 14; refine (TR.out _ Hl2.out.ti Hl2.out.sh).mono ?_; rintro e w5 ⟨rfl, hb5⟩)
        | ((with_reducible show wpList _ _ _ ({ dst := _, op := Op.store _ _ _, type := _, pos := _, after := _, guard := _ } :: _) _ _); refine wpList_store_new rfl 29 _ _ rfl rfl R rfl (hc zero32) 29 (by rw [HR.out]; rfl) SR.out ?_))
      show Code.wp _ _ _ _ (w5.alloc (.cells (hc R) 29))
      have HB5 := hid ((bth HB2.out hb5).alloc (bth HB2.out hb5).size (.cells (hc R) 29))
      have Hl5 := hid ((Hl2.out.later hb5).new R)
      clear hb5 HB2 Hl2 TR
      generalize hgen : w5.alloc (.cells (hc R) 29) = y5 at *
      clear hgen
      generalize w5.heap.size = g5 at *
      have K5 := hid (fun q : Later y5 => Hl5.out.cells (k := g5) (x := R) (by simp) (lat q) (lat_below q))
      have C1 := hid (fun q : Later y5 => RR.out (lat q) (Hl5.out.sh.later (lat_below q)) (HS2.out.below (bth HB5.out (lat_below q)) (Nat.le_refl _)))
      have hR' := HR.out
      refine wp_region_later (by kernel_rfl) (by kernel_rfl) ?_
      repeat (first
        | go_big_quiet_skip
        | (refine wpQuiet_load_hcG rfl 29 _ rfl ⟨g5, 0, none⟩ rfl R _ (by rintro _ ⟨q, rfl⟩; exact K5.out q) Tryd.underlying29 rfl SR.out ?_; simp only [Act.put, List.setIfInBounds_toArray, List.set_cons_succ, List.set_cons_zero])
        | go_big_quiet_step ((first | (go_at_call 25; with_reducible exact calls_later (C1.out _)))))
      refine wpQuiet_nil ?_
      rintro _ ⟨q6, rfl⟩
      have hb6 := lat_below q6
      generalize lat q6 = w6 at *
      have HB6 := hid (bth HB5.out hb6)
      have Hl6 := hid (Hl5.out.later hb6)
      clear hb6 HB5 Hl5 K5 C1 RR HS2 hsl
      go_wp2_with fail
      go_loopw [12] (fun iv wr => ∃ k : Nat, k ≤ M ∧ iv = .int .i64 (k : Int) ∧ Liv wr g tb hs [(g5, R)] [(.slice ad hs.length cap, hs)] ∧ Below w.heap.size w wr) (fun iv _ => M - (intOf iv).toNat)
      case atStart => exact ⟨0, by omega, rfl, Hl6.out, HB6.out⟩
      case round =>
        obtain ⟨k, hk, rfl, hl, hb⟩ := hrel
        have HL := hid hl; have HB := hid hb
        clear hl hb Hl6 HB6
        by_cases hlt : k < M
        · have d1 : decide (k < M) = true := by simpa using hlt
          have PI := hid (TP.out k hlt wr HL.out.ti HL.out.sh)
          have CI := hid (CK.out k hlt)
          have hkl : k < hs.length := by omega
          obtain ⟨bb, o, rfl, hbl, hcl, hcell⟩ := (HL.out.s (.slice ad hs.length cap, hs) (by simp)).at (i := k) (cs := hs[k].map bcell) (by simp [hcs, hkl])
          have hY : hs[k]? = some hs[k] := List.getElem?_eq_getElem hkl
          have hX := Hr32.out _ (List.getElem_mem hkl)
          generalize hs[k] = Y at *
          have Hsy := hid (show (Tryd.prog.info? 29).map (·.size) = some Y.length by rw [hX]; exact Tryd.sizeHash)
          have HY := hid hY
          have hY32 := hX
          clear hcell hcl hbl hX hY TP CK TRk TQk PK HRk TPM TRM
          go_upto_region 14 with (go_at_call 16; refine PI.out.mono ?_; rintro e w7 ⟨⟨u7, rfl, hu⟩, hb7⟩)
          have HB7 := hid (bth HB.out hb7)
          have HL7 := hid (HL.out.later hb7)
          have HU := hid hu
          clear hb7 hu PI
          have K5 := hid (fun q : Later w7 => HL7.out.cells (k := g5) (x := R) (by simp) (lat q) (lat_below q))
          have KY := hid (fun q : Later w7 => HL7.out.elem (b := bb) (o := o) (n := hs.length) (cap := cap) (hs := hs) (by simp) k Y HY.out (lat q) (lat_below q))
          have C1 := hid (fun q : Later w7 => CI.out Y u7 (lat q) HY.out (HU.out.below (lat_below q) (Nat.le_refl _)) (HL7.out.sh.later (lat_below q)))
          refine wp_region_later (by kernel_rfl) (by kernel_rfl) ?_
          repeat (first
            | go_big_quiet_skip
            | (refine wpQuiet_load_hcG rfl 29 _ rfl ⟨bb, o + k * 32, none⟩ rfl Y _ (by rintro _ ⟨q, rfl⟩; exact KY.out q) Tryd.underlying29 rfl Hsy.out ?_; simp only [Act.put, List.setIfInBounds_toArray, List.set_cons_succ, List.set_cons_zero])
            | (refine wpQuiet_load_hcG rfl 29 _ rfl ⟨g5, 0, none⟩ rfl R _ (by rintro _ ⟨q, rfl⟩; exact K5.out q) Tryd.underlying29 rfl SR.out ?_; simp only [Act.put, List.setIfInBounds_toArray, List.set_cons_succ, List.set_cons_zero])
            | go_big_quiet_step ((first | (go_at_call 26; with_reducible exact calls_later (C1.out _)))))
          refine wpQuiet_nil ?_
          rintro _ ⟨q8, rfl⟩
          have hb8 := lat_below q8
          generalize lat q8 = w8 at *
          have HL8 := hid (HL7.out.later hb8)
          have HB8 := hid (bth HB7.out hb8)
          clear hb8 HL7 HB7 HL HB K5 KY C1 HU CI HY
          go_wp2
          go_roundw
          case rel => exact ⟨k + 1, by omega, by go_num, HL8.out, HB8.out⟩
          case measure => simp [intOf]; omega
        · obtain rfl : k = M := by omega
          have d1 : decide (k < k) = false := by simp
          clear hlt hk TP CK
          go_wp2_with fail
          go_loopw [15] (fun iv wr => ∃ j : Nat, j ≤ k + 1 ∧ iv = .int .i64 (j : Int) ∧ Liv wr g tb hs [(g5, R)] [(.slice ad hs.length cap, hs)] ∧ Below w.heap.size w wr) (fun iv _ => k + 1 - (intOf iv).toNat)
          case atStart => exact ⟨0, by omega, rfl, HL.out, HB.out⟩
          case round =>
            rename_i wr0 _
            obtain ⟨j, hj, rfl, hl, hb⟩ := hrel
            clear HL HB
            have HL := hid hl; have HB := hid hb
            clear hl hb
            by_cases hlt : j ≤ k
            · have d2 : decide (j ≤ k) = true := by simpa using hlt
              have TRI := hid (TRk.out j hlt)
              have TQI := hid (TQk.out j hlt)
              have PI := hid (PK.out j hlt)
              have hO := HRk.out j
              clear TRk TQk PK HRk TPM TRM
              generalize rootL (hs.take j) = O at *
              have HO := hid hO
              have SO := hid (show (Tryd.prog.info? 29).map (·.size) = some O.length by rw [hO]; exact Tryd.sizeHash)
              clear hO
              go_upto_region 20 with (first
                | (go_at_call 14; refine (TRI.out _ HL.out.ti HL.out.sh).mono ?_; rintro e w7 ⟨rfl, hb7⟩)
                | ((with_reducible show wpList _ _ _ ({ dst := _, op := Op.store _ _ _, type := _, pos := _, after := _, guard := _ } :: _) _ _); refine wpList_store_new rfl 29 _ _ rfl rfl O rfl (hc zero32) 29 (by rw [HO.out]; rfl) SO.out ?_))
              show Code.wp _ _ _ _ (w7.alloc (.cells (hc O) 29))
              have HB7 := hid ((bth HB.out hb7).alloc (bth HB.out hb7).size (.cells (hc O) 29))
              have HL7 := hid ((HL.out.later hb7).new O)
              clear hb7 HB HL TRI
              generalize hgen : w7.alloc (.cells (hc O) 29) = y7 at *
              clear hgen
              generalize w7.heap.size = g7 at *
              go_upto_region 21 with (go_at_call 18; refine (TQI.out _ HL7.out.ti HL7.out.sh).mono ?_; rintro e w8 ⟨⟨u8, rfl, hu⟩, hb8⟩)
              have HB8 := hid (bth HB7.out hb8)
              have HL8 := hid (HL7.out.later hb8)
              have HU := hid hu
              clear hb8 hu TQI HB7 HL7
              have K5 := hid (fun q : Later w8 => HL8.out.cells (k := g5) (x := R) (by simp) (lat q) (lat_below q))
              have K7 := hid (fun q : Later w8 => HL8.out.cells (k := g7) (x := O) (by simp) (lat q) (lat_below q))
              have C1 := hid (fun q : Later w8 => PI.out u8 (lat q) (HU.out.below (lat_below q) (Nat.le_refl _)) (HL8.out.sh.later (lat_below q)))
              have hO' := HO.out
              refine wp_region_seq_later ?_
              repeat (first
                | go_big_quiet_skip
                | (refine wpQuiet_load_hcG rfl 29 _ rfl ⟨g7, 0, none⟩ rfl O _ (by rintro _ ⟨q, rfl⟩; exact K7.out q) Tryd.underlying29 rfl SO.out ?_; simp only [Act.put, List.setIfInBounds_toArray, List.set_cons_succ, List.set_cons_zero])
                | (refine wpQuiet_load_hcG rfl 29 _ rfl ⟨g5, 0, none⟩ rfl R _ (by rintro _ ⟨q, rfl⟩; exact K5.out q) Tryd.underlying29 rfl SR.out ?_; simp only [Act.put, List.setIfInBounds_toArray, List.set_cons_succ, List.set_cons_zero])
                | go_big_quiet_step ((first | (go_at_call 27; with_reducible exact calls_later (C1.out _)))))
              refine wpQuiet_nil ?_
              rintro _ ⟨q9, rfl⟩
              have hb9 := lat_below q9
              generalize lat q9 = w9 at *
              have HB9 := hid (bth HB8.out hb9)
              have HL9 := hid (HL8.out.later hb9)
              clear hb9 HB8 K5 K7 C1 PI HU
              go_wp2
              go_roundw
              case rel => exact ⟨j + 1, by omega, by go_num, ⟨HL9.out.ti, HL9.out.sh, fun q hq => HL9.out.b q (by simp at hq; simp [hq]), HL9.out.s⟩, HB9.out⟩
              case measure => simp [intOf]; omega
            · obtain rfl : j = k + 1 := by omega
              have d2 : decide (k + 1 ≤ k) = false := by simp
              clear hlt hj TRk TQk PK HRk
              go_upto_region 24 with (go_at_call 16; refine (TPM.out _ HL.out.ti HL.out.sh).mono ?_; rintro e w7 ⟨⟨u7, rfl, hu⟩, hb7⟩)
              have HB7 := hid (bth HB.out hb7)
              have HL7 := hid (HL.out.later hb7)
              clear hb7 hu HB HL TPM
              go_upto_region 25 with (first
                | (go_at_call 14; refine (TRM.out _ HL7.out.ti HL7.out.sh).mono ?_; rintro e w8 ⟨rfl, hb8⟩)
                | ((with_reducible show wpList _ _ _ ({ dst := _, op := Op.store _ _ _, type := _, pos := _, after := _, guard := _ } :: _) _ _); refine wpList_store_new rfl 29 _ _ rfl rfl RM rfl (hc zero32) 29 (by rw [HRM.out]; rfl) SRM.out ?_))
              have HB8 := hid ((bth HB7.out hb8).alloc (bth HB7.out hb8).size (.cells (hc RM) 29))
              have HG8 := hid (HG.out.later HB8.out)
              clear hb8 HB7
              go_wp2_with (go_at_call 10; refine (TD.out _ HG8.out).mono ?_; rintro e w9 ⟨rfl, hb9⟩)
              go_ret
              exact ⟨rfl, bth HB8.out hb9⟩
end Go.Proofs.YtbpjlancjdbehaaDoor
