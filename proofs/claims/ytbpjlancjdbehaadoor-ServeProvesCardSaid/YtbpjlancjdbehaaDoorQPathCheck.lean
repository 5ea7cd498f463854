/- paths.Check -/
import Derived.Test.YtbpjlancjdbehaaDoorQAnyOp
import Derived.Test.YtbpjlancjdbehaaDoorQPathCheckE
import Derived.Test.YtbpjlancjdbehaaDoorQShaLaid
import Derived.Test.YtbpjlancjdbehaaDoorQSlices
import Derived.WalkMore
set_option maxRecDepth 100000
namespace Go.Proofs.YtbpjlancjdbehaaDoor
open Go.RowKit Go.Spec
set_option maxHeartbeats 1000000 in
theorem check_out (x : List UInt8) (i n : Int) (v : Value) (r : List UInt8) (w : World) (h : chkOut i n) :
    Calls Tryd.prog 26 #[hv x, .int .i64 i, .int .i64 n, v, hv r] w fun e w' => e = .returned (.int .i64 2) ∧ Below w.heap.size w w' := by
  have HB : Below w.heap.size w ((w.alloc (.cells (hc x) 29)).alloc (.cells (hc r) 29)) := ((Below.refl _ w).alloc (Nat.le_refl _) _).alloc (by simp) _
  have hw := chk_ways h
  clear h
  rcases hw with d1 | ⟨d1, d2⟩ | ⟨d1, d2, d3⟩ | ⟨d1, d2, d3, d4⟩
  all_goals (
    go_enter Tryd.func26, Tryd.ntmps26
    go_wp2
    go_step3
    go_wp2
    rw [Exit.noGoto_ret]
    go_ret
    exact ⟨rfl, HB⟩)
/-- how the walk ends -/
theorem check_end (x : List UInt8) (i n k i2 m2 : Nat) (p : List (List UInt8)) (r X : List UInt8) (hk : k ≤ p.length) (h2 : i2 ≤ m2)
    (hc : climbL (dirD i (n - 1)) p x = climbL (dirD i2 m2) (p.drop k) X) (hl : (dirD i (n - 1)).length = k + (dirD i2 m2).length) (he : m2 = 0 ∨ k = p.length) :
    checkN x i n p r = (decide (m2 = 0) && decide (k = p.length) && (X == r)) := by
  unfold checkN
  rw [hl, hc]
  by_cases h0 : m2 = 0
  · subst h0
    rw [dir_zero]
    by_cases hkp : k = p.length
    · subst hkp
      rw [List.drop_length]; simp [climbL]
    · have : ¬ p.length = k + 0 := by omega
      simp [hkp]; intro h; omega
  · have hp := dir_pos m2 i2 (by omega) h2
    have : ¬ p.length = k + (dirD i2 m2).length := by omega
    simp [h0, this]
set_option maxHeartbeats 8000000 in
theorem check_in (x : List UInt8) (i n : Nat) (v : Value) (p : List (List UInt8)) (r : List UInt8) (w : World) (h1 : 1 ≤ n) (h2 : n ≤ 4096) (hi : i < n) (hx : x.length = 32) (hr : r.length = 32) (hpl : p.length ≤ 1000000) (hS : SlAt w 32 v (hcs p)) (hG : ShaG w) :
    Calls Tryd.prog 26 #[hv x, .int .i64 (i : Int), .int .i64 (n : Int), v, hv r] w fun e w' => e = .returned (.int .i64 (if checkN x i n p r then 0 else 80)) ∧ Below w.heap.size w w' := by
  have HG := hid hG; clear hG
  obtain ⟨a, cap, rfl, hcap⟩ := hS.formH
  have HS := hid hS
  have H32 := hid hS.len32
  have HB : Below w.heap.size w ((w.alloc (.cells (hc x) 29)).alloc (.cells (hc r) 29)) := ((Below.refl _ w).alloc (Nat.le_refl _) _).alloc (by simp) _
  have hX : Blk ((w.alloc (.cells (hc x) 29)).alloc (.cells (hc r) 29)) w.heap.size (hc x) 29 := (Blk.new _ _ _).alloc _
  have hR : Blk ((w.alloc (.cells (hc x) 29)).alloc (.cells (hc r) 29)) (w.heap.size + 1) (hc r) 29 := Blk.new' _ _ _ (by simp)
  have Hsr := hid (show (Tryd.prog.info? 29).map (·.size) = some (hc r).size by rw [hc_size, hr]; exact Tryd.sizeHash)
  have Hrl := hid hr
  have d1 : decide ((n : Int) < 1) = false := by simp; omega
  have d2 : decide ((4096 : Int) < (n : Int)) = false := by simp; omega
  have d3 : decide ((i : Int) < 0) = false := by simp
  have d4 : decide (n ≤ i) = false := by simp; omega
  have hs3 := Tryd.sizeHash
  have hs5 := Tryd.sizeU8
  have hge := Tryd.guardHash3
  obtain ⟨m, hm⟩ : ∃ m, n - 1 = m := ⟨_, rfl⟩
  have em : (n : Int) - 1 = (m : Int) := by omega
  have him : i ≤ m := by omega
  have hmb : m ≤ 4095 := by omega
  have Hend := hid (fun k i2 m2 X a b c d e => check_end x i n k i2 m2 p r X a b c d e)
  rw [hm] at Hend
  generalize checkN x i n p r = ck at *
  have HXx := hid hx
  have HX := hid hX; have HR := hid hR; have HBh := hid HB
  generalize hw0 : ((w.alloc (.cells (hc x) 29)).alloc (.cells (hc r) 29)) = w0 at *
  have Hw0 := hid hw0
  have hwl0 := HB.size
  have Hx0 := hid hX.lt
  clear hS hx h1 h2 hi hw0 hX hR HB hm hr
  go_enter Tryd.func26, Tryd.ntmps26
  go_wp2_with fail
  go_step3
  go_upto_region 1 with fail
  show Code.wp _ _ _ _ ((w.alloc (.cells (hc x) 29)).alloc (.cells (hc r) 29))
  rw [Hw0.out]
  go_wp2_with fail
  go_step3
  go_wp2_with fail
  go_loopw [1, 11, 12, 34] (fun si sm su sk wr => ∃ (k i2 m2 : Nat) (X : List UInt8), k ≤ p.length ∧ i2 ≤ m2 ∧ m2 ≤ m ∧ si = .int .i64 (i2 : Int) ∧ sm = .int .i64 (m2 : Int) ∧ su = .int .i64 (k : Int) ∧ sk = .int .i64 (k : Int) ∧ X.length = 32 ∧ climbL (dirD i m) p x = climbL (dirD i2 m2) (p.drop k) X ∧ (dirD i m).length = k + (dirD i2 m2).length ∧ Blk wr w.heap.size (hc X) 29 ∧ Blk wr (w.heap.size + 1) (hc r) 29 ∧ Below w.heap.size w wr) (fun _ _ _ sk _ => p.length - (intOf sk).toNat)
  case atStart => exact ⟨0, i, m, x, by omega, him, Nat.le_refl _, rfl, by go_num, rfl, rfl, HXx.out, rfl, (Nat.zero_add _).symm, HX.out, HR.out, HBh.out⟩
  case round =>
    obtain ⟨k, i2, m2, X, hk, hi2, hm2, rfl, rfl, rfl, rfl, hX32, hcl, hdl, hBX, hBr, hb⟩ := hrel
    clear HX HR HBh HXx
    have HE := hid (fun he => Hend.out k i2 m2 X hk hi2 hcl hdl he)
    have hwx : w.heap.size < wr.heap.size := hBX.lt
    have HBX := hid hBX; have HBr := hid hBr; have HX32 := hid hX32
    have Hcl := hid hcl; have Hdl := hid hdl
    clear hBX hBr hX32 hcl hdl Hend
    by_cases hkl : k < p.length
    · have hdk : decide (k < p.length) = true := by simpa using hkl
      obtain ⟨b, o, rfl, hblt⟩ := HS.out.addr (by rw [hcs_length]; omega)
      obtain ⟨H, hH⟩ : ∃ H, p[k] = H := ⟨_, rfl⟩
      have hpk : p[k]? = some H := by rw [List.getElem?_eq_getElem hkl, hH]
      have Hdrop := hid (show p.drop k = H :: p.drop (k + 1) by rw [List.drop_eq_getElem_cons hkl, hH])
      have HH := hid (H32.out H (List.mem_of_getElem? hpk))
      have Hcell := hid (show ∀ j u, (H.map bcell)[j]? = some u → wr.cell? ((⟨b, o + k * 32, none⟩ : Addr).add j) = some u from by
        obtain ⟨b', o', e1, _, _, h3⟩ := (HS.out.below hb (Nat.le_refl _)).at (i := k) (cs := H.map bcell) (by unfold hcs; rw [List.getElem?_map, hpk]; rfl)
        injection e1 with e1
        injection e1 with e2 e3
        subst e2; subst e3
        exact h3)
      have Hsh := hid (show (Tryd.prog.info? 29).map (·.size) = some H.length by rw [HH.out]; exact Tryd.sizeHash)
      have Hsx := hid (show (Tryd.prog.info? 29).map (·.size) = some (hc X).size by rw [hc_size, HX32.out]; exact Tryd.sizeHash)
      have Hb := hid hb
      clear hH hpk hb
      by_cases hm0 : m2 = 0
      · have hck : ck = false := by rw [HE.out (.inl hm0)]; simp; intro h; omega
        subst hm0
        have hkne : ((k : Int) != (p.length : Int)) = true := by simp; omega
        have hkne2 : (k != p.length) = true := by simp; omega
        have Hck := hid hck
        clear HE hck Hcl Hdl
        go_wp2_with (first
          | (refine wpList_load_hc rfl 29 _ rfl ⟨b, o + k * 32, none⟩ rfl H _ Hcell.out Tryd.underlying29 rfl Hsh.out ?_)
          | ((with_reducible show wpList _ _ _ ({ dst := _, op := Op.store _ _ _, type := _, pos := _, after := _, guard := _ } :: _) _ (World.alloc wr _)); refine wpList_store_new rfl 29 _ _ rfl rfl H rfl (hc zero32) 29 (by rw [HH.out]; rfl) Hsh.out ?_))
        rw [Exit.noGoto_ret]
        go_ret
        exact ⟨by rw [Hck.out]; rfl, Hb.out.alloc (Nat.le_of_lt hwx) _⟩
      · have hdm : ((m2 : Int) == 0) = false := beq_eq_false_iff_ne.mpr (by omega)
        clear HE
        by_cases hw : i2 % 2 = 1 ∨ i2 = m2
        · have hway : (((i2 : Int) % 2 == 1) = true) ∨ (((i2 : Int) % 2 == 1) = false ∧ i2 = m2) := by
            by_cases h0 : i2 % 2 = 1
            · exact .inl (by simp; omega)
            · exact .inr ⟨by simp; omega, by omega⟩
          have HW := hid hw
          have Hm0 := hid hm0
          have Hnl := hid (nodeL_len H X)
          have Nd := hid (fun w0 h0 => node_any H X w0 HH.out HX32.out h0)
          have Hup := hid (show upL true X H = nodeL H X from rfl)
          generalize nodeL H X = N at *
          have HsN := hid (show (Tryd.prog.info? 29).map (·.size) = some (hc N).size by rw [hc_size, Hnl.out]; exact Tryd.sizeHash)
          have Hi2 := hid hi2; have Hm2 := hid hm2
          obtain ⟨D, hD⟩ : ∃ D, dirD i2 m2 = D := ⟨_, rfl⟩
          rw [hD] at Hcl Hdl
          have HD := hid hD
          clear hw hm0 hD
          rcases hway with hw1 | ⟨hw1, hw2⟩
          all_goals (
            try have Hw2 := hid hw2
            try subst hw2
            go_wp2_with (first
              | (refine wpList_load_hc rfl 29 _ rfl ⟨b, o + k * 32, none⟩ rfl H _ Hcell.out Tryd.underlying29 rfl Hsh.out ?_)
              | ((with_reducible show wpList _ _ _ ({ dst := _, op := Op.store _ _ _, type := _, pos := _, after := _, guard := _ } :: _) _ (World.alloc wr _)); refine wpList_store_new rfl 29 _ _ rfl rfl H rfl (hc zero32) 29 (by rw [HH.out]; rfl) Hsh.out ?_)
              | ((with_reducible show wpList _ _ _ ({ dst := _, op := Op.load 29 _, type := _, pos := _, after := _, guard := _ } :: _) _ _); first
                | (refine wpList_load_new rfl 29 _ rfl rfl H 29 _ Tryd.underlying29 rfl Hsh.out ?_)
                | (refine wpList_load_blk rfl 29 _ rfl w.heap.size rfl _ (hc X) _ (HBX.out.alloc _) Tryd.underlying29 rfl Hsx.out ?_))
              | (go_at_call 40; refine (Nd.out _ (HG.out.later (Hb.out.alloc (Nat.le_of_lt hwx) _))).mono ?_; rintro e w5 ⟨rfl, hb5⟩)
              | ((with_reducible show wpList _ _ _ ({ dst := _, op := Op.store _ _ _, type := _, pos := _, after := _, guard := _ } :: _) _ _); refine wpList_store_blk rfl 29 _ _ rfl w.heap.size rfl (hc N) rfl _ _ ((HBX.out.alloc _).later hb5) (by rw [hc_size, hc_size, HX32.out, Hnl.out]) HsN.out (hc_row_one _) ?_))
            show Code.wp _ _ _ _ (w5.setRow w.heap.size (hc N))
            have Hb6 := hid ((bth (Hb.out.alloc (Nat.le_of_lt hwx) (.cells (hc H) 29)) hb5).setRow (Nat.le_refl _) (hc N))
            have HN6 := hid (((HBX.out.alloc (.cells (hc H) 29)).later hb5).setRow (cs' := hc N))
            have HR6 := hid (((HBr.out.alloc (.cells (hc H) 29)).later hb5).setRow_ne (k := w.heap.size) (cs' := hc N) (by omega))
            clear hb5
            generalize w5.setRow w.heap.size (hc N) = w6 at *
            clear hw1
            simp only [Act.put]
            go_loop [1, 11] (fun si sm => ∃ i3 m3 : Nat, i3 ≤ m3 ∧ 0 < m3 ∧ m3 ≤ m ∧ (i3 % 2 = 1 ∨ i3 = m3) ∧ dirD i3 m3 = D ∧ si = .int .i64 (i3 : Int) ∧ sm = .int .i64 (m3 : Int)) (fun _ sm => (intOf sm).toNat)
            case atStart => exact ⟨i2, _, Hi2.out, Nat.pos_of_ne_zero Hm0.out, Hm2.out, (by first | exact HW.out | exact .inr rfl), HD.out, rfl, rfl⟩
            case round =>
              obtain ⟨i3, m3, h31, h32, h33, h34, h35, rfl, rfl⟩ := hrel
              obtain ⟨q, hq⟩ : ∃ q, i3 / 2 = q := ⟨_, rfl⟩
              obtain ⟨q2, hq2⟩ : ∃ q2, m3 / 2 = q2 := ⟨_, rfl⟩
              have e1 : (i3 : Int) / 2 = (q : Int) := by omega
              have e2 : (m3 : Int) / 2 = (q2 : Int) := by omega
              have hqq : q ≤ q2 := by omega
              have hq2m : q2 ≤ m := by omega
              have H35 := hid h35
              clear h35
              by_cases ho : i3 % 2 = 1
              · have hodd : ((i3 : Int) % 2 == 0) = false := by simp; omega
                have Hds := hid (dir_odd i3 m3 h32 ho)
                rw [hq, hq2, H35.out] at Hds
                have Hqq := hid hqq; have Hq2m := hid hq2m
                clear ho hq hq2 h34 h31 h32 h33
                go_wp2
                go_roundw
                case rel =>
                  refine ⟨k + 1, q, q2, N, by omega, Hqq.out, Hq2m.out, by go_num, by go_num, by go_num, by go_num, Hnl.out, ?_, ?_, HN6.out, HR6.out, Hb6.out⟩
                  · rw [Hcl.out, Hds.out, Hdrop.out]; show climbL _ _ (upL true X H) = _; rw [Hup.out]
                  · rw [Hdl.out, Hds.out, List.length_cons]; omega
                case measure => simp [intOf]; omega
              · obtain rfl : i3 = m3 := by omega
                have heven : ((i3 : Int) % 2 == 0) = true := by simp; omega
                have hpos : decide ((0 : Int) < (i3 : Int)) = true := by simp; omega
                have hpos2 : decide (0 < i3) = true := by simp; omega
                have Hds := hid (dir_last i3 h32 (by omega))
                rw [hq, H35.out] at Hds
                have Hq := hid (show 0 < q ∧ q ≤ m ∧ q < i3 by omega)
                have hqe : q2 = q := by omega
                subst hqe
                clear ho hq2 h34 h31 h32 h33 hq
                go_wp2
                go_round
                case rel => exact ⟨q2, q2, Nat.le_refl _, Hq.out.1, Hq.out.2.1, .inr rfl, Hds.out.symm, by go_num, by go_num⟩
                case measure => have := Hq.out; simp [intOf]; omega)
        · have hodd : ((i2 : Int) % 2 == 1) = false := by simp; omega
          have hne : ((i2 : Int) == (m2 : Int)) = false := beq_eq_false_iff_ne.mpr (by omega)
          have hne2 : (i2 == m2) = false := beq_eq_false_iff_ne.mpr (by omega)
          have Hds := hid (dir_even i2 m2 (by omega) (by omega) (by omega))
          obtain ⟨q, hq⟩ : ∃ q, i2 / 2 = q := ⟨_, rfl⟩
          obtain ⟨q2, hq2⟩ : ∃ q2, m2 / 2 = q2 := ⟨_, rfl⟩
          have e1 : (i2 : Int) / 2 = (q : Int) := by omega
          have e2 : (m2 : Int) / 2 = (q2 : Int) := by omega
          have hqq : q ≤ q2 := by omega
          have hq2m : q2 ≤ m := by omega
          rw [hq, hq2] at Hds
          have Hnl := hid (nodeL_len X H)
          have Nd := hid (fun w0 h0 => node_any X H w0 HX32.out HH.out h0)
          have Hup := hid (show upL false X H = nodeL X H from rfl)
          generalize nodeL X H = N at *
          have HsN := hid (show (Tryd.prog.info? 29).map (·.size) = some (hc N).size by rw [hc_size, Hnl.out]; exact Tryd.sizeHash)
          clear hw hm0 hq hq2
          go_wp2_with (first
            | (refine wpList_load_hc rfl 29 _ rfl ⟨b, o + k * 32, none⟩ rfl H _ Hcell.out Tryd.underlying29 rfl Hsh.out ?_)
            | ((with_reducible show wpList _ _ _ ({ dst := _, op := Op.store _ _ _, type := _, pos := _, after := _, guard := _ } :: _) _ (World.alloc wr _)); refine wpList_store_new rfl 29 _ _ rfl rfl H rfl (hc zero32) 29 (by rw [HH.out]; rfl) Hsh.out ?_)
            | ((with_reducible show wpList _ _ _ ({ dst := _, op := Op.load 29 _, type := _, pos := _, after := _, guard := _ } :: _) _ _); first
              | (refine wpList_load_new rfl 29 _ rfl rfl H 29 _ Tryd.underlying29 rfl Hsh.out ?_)
              | (refine wpList_load_blk rfl 29 _ rfl w.heap.size rfl _ (hc X) _ (HBX.out.alloc _) Tryd.underlying29 rfl Hsx.out ?_))
            | (go_at_call 40; refine (Nd.out _ (HG.out.later (Hb.out.alloc (Nat.le_of_lt hwx) _))).mono ?_; rintro e w5 ⟨rfl, hb5⟩)
            | ((with_reducible show wpList _ _ _ ({ dst := _, op := Op.store _ _ _, type := _, pos := _, after := _, guard := _ } :: _) _ _); refine wpList_store_blk rfl 29 _ _ rfl w.heap.size rfl (hc N) rfl _ _ ((HBX.out.alloc _).later hb5) (by rw [hc_size, hc_size, HX32.out, Hnl.out]) HsN.out (hc_row_one _) ?_))
          have Hb6 := hid ((bth (Hb.out.alloc (Nat.le_of_lt hwx) (.cells (hc H) 29)) hb5).setRow (Nat.le_refl _) (hc N))
          have HN6 := hid (((HBX.out.alloc (.cells (hc H) 29)).later hb5).setRow (cs' := hc N))
          have HR6 := hid (((HBr.out.alloc (.cells (hc H) 29)).later hb5).setRow_ne (k := w.heap.size) (cs' := hc N) (by omega))
          go_roundw
          case rel =>
            refine ⟨k + 1, q, q2, N, by omega, hqq, hq2m, by go_num, by go_num, by go_num, by go_num, Hnl.out, ?_, ?_, HN6.out, HR6.out, Hb6.out⟩
            · rw [Hcl.out, Hds.out, Hdrop.out]; show climbL _ _ (upL false X H) = _; rw [Hup.out]
            · rw [Hdl.out, Hds.out, List.length_cons]; omega
          case measure => simp [intOf]; omega
    · obtain rfl : k = p.length := by omega
      have hdk : decide (p.length < p.length) = false := by simp
      have hck := HE.out (.inr rfl)
      rw [decide_eq_true (rfl : p.length = p.length), Bool.and_true] at hck
      clear HE Hcl Hdl
      by_cases hm0 : m2 = 0
      · subst hm0
        rw [decide_eq_true (rfl : (0 : Nat) = 0), Bool.true_and] at hck
        have Hsx := hid (show (Tryd.prog.info? 29).map (·.size) = some (hc X).size by rw [hc_size, HX32.out]; exact Tryd.sizeHash)
        have hx32 := HX32.out
        have hr32 := Hrl.out
        have Hck := hid hck
        clear hck
        by_cases hq : (X == r) = true
        all_goals (
          try rw [Bool.not_eq_true] at hq
          go_upto_region 17 with fail
          refine wp_region_seq_later ?_
          repeat (first
            | (refine wpQuiet_load_later rfl 29 _ rfl w.heap.size rfl (hc X) 29 _ HBX.out Tryd.underlying29 rfl Hsx.out ?_; simp only [Act.put, List.setIfInBounds_toArray, List.set_cons_succ, List.set_cons_zero])
            | (refine wpQuiet_load_later rfl 29 _ rfl (w.heap.size + 1) rfl (hc r) 29 _ HBr.out Tryd.underlying29 rfl Hsr.out ?_; simp only [Act.put, List.setIfInBounds_toArray, List.set_cons_succ, List.set_cons_zero])
            | go_big_quiet_step (fail))
          refine wpQuiet_nil ?_
          rintro _ ⟨q7, rfl⟩
          have hb7 := lat_below q7
          generalize lat q7 = w7 at *
          go_wp2
          rw [Exit.noGoto_ret]
          go_ret
          exact ⟨by rw [Hck.out, hq]; rfl, bth hb hb7⟩)
      · have hdm : ((m2 : Int) != 0) = true := by simp; omega
        rw [decide_eq_false hm0, Bool.false_and] at hck
        have Hck := hid hck
        clear hck
        go_wp2
        rw [Exit.noGoto_ret]
        go_ret
        exact ⟨by rw [Hck.out]; rfl, hb⟩
theorem check_any (x : List UInt8) (i n : Int) (v : Value) (p : List (List UInt8)) (r : List UInt8) (w : World) (hx : x.length = 32) (hr : r.length = 32) (hpl : p.length ≤ 1000000) (hS : SlAt w 32 v (hcs p)) (hG : ShaG w) :
    Calls Tryd.prog 26 #[hv x, .int .i64 i, .int .i64 n, v, hv r] w fun e w' => e = .returned (.int .i64 (checkE x i n p r)) ∧ Below w.heap.size w w' := by
  unfold checkE
  by_cases h : chkOut i n
  · rw [if_pos h]; exact check_out x i n v r w h
  · rw [if_neg h]
    unfold chkOut at h
    obtain ⟨a, rfl⟩ : ∃ a : Nat, i = a := ⟨i.toNat, by omega⟩
    obtain ⟨b, rfl⟩ : ∃ b : Nat, n = b := ⟨n.toNat, by omega⟩
    exact check_in x a b v p r w (by omega) (by omega) (by omega) hx hr hpl hS hG
end Go.Proofs.YtbpjlancjdbehaaDoor
