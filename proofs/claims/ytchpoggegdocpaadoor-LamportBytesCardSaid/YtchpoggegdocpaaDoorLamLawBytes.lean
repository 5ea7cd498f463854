/- the law LamportBytes: the walk -/
import Derived.Test.YtchpoggegdocpaaDoorLamLaw
set_option maxRecDepth 100000
namespace Go.Proofs.YtchpoggegdocpaaDoor
open Go.RowKit Go.Spec
set_option maxHeartbeats 4000000 in
theorem lamportBytes_law (s d : List UInt8) (w : World) (hl : s.length ≤ 9223372036854775807) (hd : d.length = 32) (hG : ShaG w) :
    Calls Tryd.prog 9 #[sv s, hv d] w fun e w' => e = .returned (.bool true) ∧ Below w.heap.size w w' := by
  have HG := hid hG; clear hG
  have HA : Below w.heap.size w (w.alloc (.cells (hc d) 42)) := (Below.refl _ w).alloc (Nat.le_refl _) _
  have hD : Blk (w.alloc (.cells (hc d) 42)) w.heap.size (hc d) 42 := Blk.new _ _ _
  by_cases h1 : 600 < s.length
  · have hd1 : decide ((600 : Int) < (s.length : Int)) = true := by simp; omega
    clear h1
    go_enter Tryd.func9, Tryd.ntmps9
    go_wp2_with (go_at_call 17; refine (keyed_any _ (HG.out.later HA)).mono ?_; rintro e w1 ⟨rfl, hb⟩)
    go_ret
    exact ⟨rfl, bth HA hb⟩
  · have hd1 : decide ((600 : Int) < (s.length : Int)) = false := by simp; omega
    have hs6 : s.length ≤ 600 := by omega
    have R := hid (fun x w0 (hx : x.length ≤ 100000) h0 => recover_any x d w0 (by omega) hd h0)
    have R2 := hid (fun x w0 (hx : x.length ≤ 100000) => rrecover_any x d w0 (by omega) hd)
    have HR := hid (fun x => recH_len x d)
    have Hsd := hid (show (Tryd.prog.info? 42).map (·.size) = some (hc d).size by rw [hc_size, hd]; exact Tryd.sizeHash)
    have Hsr := hid (fun x => show (Tryd.prog.info? 42).map (·.size) = some (recH x d).length by rw [HR.out]; exact Tryd.sizeHash)
    have Hcr := hid (fun x => show (Tryd.prog.info? 42).map (·.size) = some (hc (recH x d)).size by rw [hc_size, HR.out]; exact Tryd.sizeHash)
    have HDB := hid hD; have HA0 := hid HA
    have hs3 := Tryd.sizeHash
    have hs5 := Tryd.sizeU8
    have hge := Tryd.guardHash3
    clear h1 hl hd hD HA
    go_enter Tryd.func9, Tryd.ntmps9
    go_upto_region 3 with fail
    show Code.wp _ _ _ _ (w.alloc (.cells (hc d) 42))
    generalize w.alloc (.cells (hc d) 42) = w0 at *
    have HS6 := hid hs6
    go_wp2_with fail
    go_loop [5] (fun v => ∃ f : List UInt8, v = sv f ∧ f.length ≤ 20000) (fun v => match v with | .string b => 20000 - b.size | _ => 0)
    case atStart => exact ⟨[], rfl, by simp⟩
    case round =>
      obtain ⟨f, rfl, hf⟩ := hrel
      have HF := hid hf
      by_cases hgo : 0 < s.length ∧ f.length < 16384
      · have HGO := hid hgo
        have d0 : decide (0 < s.length) = true := by simp; omega
        have d2 : decide ((f.length : Int) < 16384) = true := by simp; omega
        clear hgo
        go_wp2
        go_round
        case rel => exact ⟨f ++ s, by go_num, by have h1 := HGO.out; have h2 := HS6.out; rw [List.length_append]; omega⟩
        case measure => have h1 := HGO.out; simp [mkS_size]; omega
      · have hor : (decide (0 < s.length) = true ∧ decide ((f.length : Int) < 16384) = false) ∨ decide (0 < s.length) = false := by
          simp only [decide_eq_true_eq, decide_eq_false_iff_not]; omega
        clear hgo
        obtain ⟨m, hm⟩ : ∃ m, min f.length 16384 = m := ⟨_, rfl⟩
        have em : min (f.length : Int) 16384 = (m : Int) := by omega
        have hmf : m ≤ f.length := by omega
        have R1 := hid (fun w0 h0 => R.out s w0 (by omega) h0)
        have R1r := hid (fun w0 => R2.out s w0 (by omega))
        have R3 := hid (fun w0 h0 => R.out (f.take m) w0 (by rw [List.length_take]; omega) h0)
        have R3r := hid (fun w0 => R2.out (f.take m) w0 (by rw [List.length_take]; omega))
        have hx := HR.out s; have hy := HR.out (f.take m)
        have Hsx := hid (Hsr.out s); have Hsy := hid (Hsr.out (f.take m))
        have Hcx := hid (Hcr.out s); have Hcy := hid (Hcr.out (f.take m))
        have hqx : (recH s d == recH s d) = true := by simp
        have hqy : (recH (f.take m) d == recH (f.take m) d) = true := by simp
        generalize recH s d = X at *
        generalize recH (f.take m) d = Y at *
        generalize recE s = E at *
        generalize recE (f.take m) = E2 at *
        have hEq : (E != E) = false := by simp
        have hE2 : (E2 == E2) = true := by simp
        have HX := hid hx; have HY := hid hy
        clear hm R R2 Hsr Hcr
        rcases hor with ⟨d0, d2⟩ | d0
        all_goals (
          go_upto_region 7 with (first
            | ((with_reducible show wpList _ _ _ ({ dst := _, op := Op.load 42 _, type := _, pos := _, after := _, guard := _ } :: _) _ _); refine wpList_load_blk rfl 42 _ rfl w.heap.size rfl _ (hc d) _ HDB.out Tryd.underlying42 rfl Hsd.out ?_)
            | (go_at_call 22; refine (R1.out _ (HG.out.later HA0.out)).mono ?_; rintro e w3 ⟨rfl, hb3⟩)
            | ((with_reducible show wpList _ _ _ ({ dst := _, op := Op.store _ _ _, type := _, pos := _, after := _, guard := _ } :: _) _ (World.alloc w3 _)); refine wpList_store_new rfl 42 _ _ rfl rfl X rfl (hc zero32) 42 (by rw [HX.out]; rfl) Hsx.out ?_))
          show Code.wp _ _ _ _ (w3.alloc (.cells (hc X) 42))
          have Hb4 := hid ((bth HA0.out hb3).alloc (bth HA0.out hb3).size (.cells (hc X) 42))
          have HX4 := hid (Blk.new w3 (hc X) 42)
          have HD4 := hid ((HDB.out.later hb3).alloc (.cells (hc X) 42))
          have hwg := (HDB.out.later hb3).lt
          clear hb3
          generalize w3.alloc (.cells (hc X) 42) = w4 at *
          generalize w3.heap.size = g3 at *
          go_upto_region 8 with (first
            | ((with_reducible show wpList _ _ _ ({ dst := _, op := Op.load 42 _, type := _, pos := _, after := _, guard := _ } :: _) _ _); refine wpList_load_blk rfl 42 _ rfl w.heap.size rfl _ (hc d) _ HD4.out Tryd.underlying42 rfl Hsd.out ?_)
            | (go_at_call 23; refine (R1r.out _).mono ?_; rintro e w5 ⟨rfl, hb5⟩)
            | ((with_reducible show wpList _ _ _ ({ dst := _, op := Op.store _ _ _, type := _, pos := _, after := _, guard := _ } :: _) _ (World.alloc w5 _)); refine wpList_store_new rfl 42 _ _ rfl rfl X rfl (hc zero32) 42 (by rw [HX.out]; rfl) Hsx.out ?_))
          show Code.wp _ _ _ _ (w5.alloc (.cells (hc X) 42))
          have Hb6 := hid ((bth Hb4.out hb5).alloc (bth Hb4.out hb5).size (.cells (hc X) 42))
          have HX5 := hid (Blk.new w5 (hc X) 42)
          have HX6 := hid ((HX4.out.later hb5).alloc (.cells (hc X) 42))
          have HD6 := hid ((HD4.out.later hb5).alloc (.cells (hc X) 42))
          have hg35 := (HX4.out.later hb5).lt
          clear hb5 Hb4 HX4 HD4
          generalize w5.alloc (.cells (hc X) 42) = w6 at *
          generalize w5.heap.size = g5 at *
          go_upto_region 11 with (first
            | ((with_reducible show wpList _ _ _ ({ dst := _, op := Op.load 42 _, type := _, pos := _, after := _, guard := _ } :: _) _ _); first
              | (refine wpList_load_blk rfl 42 _ rfl g3 rfl _ (hc X) _ HX6.out Tryd.underlying42 rfl Hcx.out ?_)
              | (refine wpList_load_blk rfl 42 _ rfl g5 rfl _ (hc X) _ HX5.out Tryd.underlying42 rfl Hcx.out ?_)))
          have Hwg5 := hid (show w.heap.size ≤ g5 by omega)
          go_upto_region 12 with (first
            | ((with_reducible show wpList _ _ _ ({ dst := _, op := Op.load 42 _, type := _, pos := _, after := _, guard := _ } :: _) _ _); refine wpList_load_blk rfl 42 _ rfl w.heap.size rfl _ (hc d) _ HD6.out Tryd.underlying42 rfl Hsd.out ?_)
            | (go_at_call 22; refine (R3.out _ (HG.out.later Hb6.out)).mono ?_; rintro e w7 ⟨rfl, hb7⟩)
            | ((with_reducible show wpList _ _ _ ({ dst := _, op := Op.store _ _ _, type := _, pos := _, after := _, guard := _ } :: _) _ _); refine wpList_store_blk rfl 42 _ _ rfl g3 rfl (hc Y) rfl _ _ (HX6.out.later hb7) (by rw [hc_size, hc_size, HX.out, HY.out]) Hcy.out (hc_row_one _) ?_))
          show Code.wp _ _ _ _ (w7.setRow g3 (hc Y))
          have Hb8 := hid ((bth Hb6.out hb7).setRow (g := g3) (Nat.le_of_lt hwg) (hc Y))
          have HY8 := hid ((HX6.out.later hb7).setRow (cs' := hc Y))
          have HX8 := hid ((HX5.out.later hb7).setRow_ne (k := g3) (cs' := hc Y) (by omega))
          have HD8 := hid ((HD6.out.later hb7).setRow_ne (k := g3) (cs' := hc Y) (by omega))
          clear hb7 Hb6 HX6 HX5 HD6
          generalize w7.setRow g3 (hc Y) = w8 at *
          go_upto_region 13 with (first
            | ((with_reducible show wpList _ _ _ ({ dst := _, op := Op.load 42 _, type := _, pos := _, after := _, guard := _ } :: _) _ _); refine wpList_load_blk rfl 42 _ rfl w.heap.size rfl _ (hc d) _ HD8.out Tryd.underlying42 rfl Hsd.out ?_)
            | (go_at_call 23; refine (R3r.out _).mono ?_; rintro e w9 ⟨rfl, hb9⟩)
            | ((with_reducible show wpList _ _ _ ({ dst := _, op := Op.store _ _ _, type := _, pos := _, after := _, guard := _ } :: _) _ _); refine wpList_store_blk rfl 42 _ _ rfl g5 rfl (hc Y) rfl _ _ (HX8.out.later hb9) (by rw [hc_size, hc_size, HX.out, HY.out]) Hcy.out (hc_row_one _) ?_))
          show Code.wp _ _ _ _ (w9.setRow g5 (hc Y))
          have Hb10 := hid ((bth Hb8.out hb9).setRow (g := g5) Hwg5.out (hc Y))
          have HYa := hid ((HX8.out.later hb9).setRow (cs' := hc Y))
          have HYb := hid ((HY8.out.later hb9).setRow_ne (k := g5) (cs' := hc Y) (by omega))
          clear hb9 Hb8 HX8 HY8 HD8
          generalize w9.setRow g5 (hc Y) = w10 at *
          go_wp2_with (first
            | ((with_reducible show wpList _ _ _ ({ dst := _, op := Op.load 42 _, type := _, pos := _, after := _, guard := _ } :: _) _ _); first
              | (refine wpList_load_blk rfl 42 _ rfl g3 rfl _ (hc Y) _ HYb.out Tryd.underlying42 rfl Hcy.out ?_)
              | (refine wpList_load_blk rfl 42 _ rfl g5 rfl _ (hc Y) _ HYa.out Tryd.underlying42 rfl Hcy.out ?_))
            | (go_at_call 17; refine (keyed_any _ (HG.out.later Hb10.out)).mono ?_; rintro e w11 ⟨rfl, hb11⟩))
          go_ret
          exact ⟨rfl, bth Hb10.out hb11⟩)
end Go.Proofs.YtchpoggegdocpaaDoor
