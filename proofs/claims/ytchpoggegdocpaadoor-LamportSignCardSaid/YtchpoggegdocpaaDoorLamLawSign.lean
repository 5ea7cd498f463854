/- the law LamportSign: the walk -/
import Derived.Test.YtchpoggegdocpaaDoorLamLaw
set_option maxRecDepth 100000
namespace Go.Proofs.YtchpoggegdocpaaDoor
open Go.RowKit Go.Spec
set_option maxHeartbeats 4000000 in
theorem lamportSign_law (seed : List UInt8) (a b c : Int) (d e : List UInt8) (w : World) (hl : seed.length ≤ 9223372036854775807) (hd : d.length = 32) (he : e.length = 32) (hG : ShaG w) :
    Calls Tryd.prog 7 #[sv seed, .agg #[.int .i64 a, .int .i64 b, .int .i64 c], hv (d ++ e)] w fun e w' => e = .returned (.bool true) ∧ Below w.heap.size w w' := by
  have HG := hid hG; clear hG
  have HA : Below w.heap.size w ((w.alloc (.cells #[.int .i64 a, .int .i64 b, .int .i64 c] 40)).alloc (.cells (hc (d ++ e)) 43)) := ((Below.refl _ w).alloc (Nat.le_refl _) _).alloc (by simp) _
  have hN : Blk ((w.alloc (.cells #[.int .i64 a, .int .i64 b, .int .i64 c] 40)).alloc (.cells (hc (d ++ e)) 43)) w.heap.size #[.int .i64 a, .int .i64 b, .int .i64 c] 40 := (Blk.new _ _ _).alloc _
  have hD : Blk ((w.alloc (.cells #[.int .i64 a, .int .i64 b, .int .i64 c] 40)).alloc (.cells (hc (d ++ e)) 43)) (w.heap.size + 1) (hc (d ++ e)) 43 := Blk.new' _ _ _ (by simp)
  by_cases h1 : 300 < seed.length
  · have hd1 : decide ((300 : Int) < (seed.length : Int)) = true := by simp; omega
    clear h1
    go_enter Tryd.func7, Tryd.ntmps7
    go_wp2_with (go_at_call 17; refine (keyed_any _ (HG.out.later HA)).mono ?_; rintro e w1 ⟨rfl, hb⟩)
    go_ret
    exact ⟨rfl, bth HA hb⟩
  · have hd1 : decide ((300 : Int) < (seed.length : Int)) = false := by simp; omega
    have hsl : seed.length ≤ 1000000 := by omega
    clear h1 hl
    generalize hw0 : (w.alloc (.cells #[.int .i64 a, .int .i64 b, .int .i64 c] 40)).alloc (.cells (hc (d ++ e)) 43) = w0 at *
    have Hw0 := hid hw0
    have HN := hid hN; have HA0 := hid HA
    have Hds := hid (show (Tryd.prog.info? 42).map (·.size) = some d.length by rw [hd]; exact Tryd.sizeHash)
    obtain ⟨D, hDk⟩ : ∃ D : Nat → List UInt8, D = fun k => if k = 0 then d else e := ⟨_, rfl⟩
    have HD32 := hid (show ∀ k, (D k).length = 32 from fun k => by rw [hDk]; dsimp only; split <;> assumption)
    have Hcell := hid (show ∀ k, k < 2 → ∀ j u, ((D k).map bcell)[j]? = some u → w0.cell? ((⟨w.heap.size + 1, k * 32, none⟩ : Addr).add j) = some u from fun k hk => by
      rw [hDk]; dsimp only
      rcases (show k = 0 ∨ k = 1 by omega) with rfl | rfl
      · exact hD.part 0 d (hc_part1 d e)
      · exact hD.part 32 e (hc_part2 d e hd))
    have hlt := hD.lt
    have S := hid (fun w0 h0 => sign_any seed (D 0) a w0 hsl (HD32.out 0) h0)
    have hgl := sgn_len seed a (D 0)
    have HGl := hid hgl
    have hq : (sgn seed a (D 0) == sgn seed a (D 0)) = true := by simp
    have S2 := hid (fun w0 => rsign_any seed (D 0) a w0 hsl (HD32.out 0))
    have HSz := hid (show ∀ k, (Tryd.prog.info? 42).map (·.size) = some (D k).length from fun k => by rw [HD32.out]; exact Tryd.sizeHash)
    clear hw0 hN HA hD hDk hd he Hds hgl
    generalize sgn seed a (D 0) = G at *
    go_enter Tryd.func7, Tryd.ntmps7
    go_upto_region 1 with fail
    show Code.wp _ _ _ _ ((w.alloc (.cells #[.int .i64 a, .int .i64 b, .int .i64 c] 40)).alloc (.cells (hc (d ++ e)) 43))
    rw [Hw0.out]
    have hc0 : w0.cell? ⟨w.heap.size, 0, none⟩ = some (.int .i64 a) := HN.out.cell 0
    go_upto_region 4 with (first
      | ((with_reducible show wpList _ _ _ ({ dst := _, op := Op.load 42 _, type := _, pos := _, after := _, guard := _ } :: _) _ _); refine wpList_load_hc rfl 42 _ rfl ⟨w.heap.size + 1, 0, none⟩ rfl (D 0) _ (Hcell.out 0 (by decide)) Tryd.underlying42 rfl (HSz.out 0) ?_)
      | (go_at_call 18; refine (S.out _ (HG.out.later HA0.out)).mono ?_; rintro e w1 ⟨rfl, hb1⟩))
    have HN1 := hid (HN.out.later hb1)
    have HA1 := hid (bth HA0.out hb1)
    have hlt1 := Nat.lt_of_lt_of_le hlt hb1.size
    have Hcell1 := hid (fun k (hk : k < 2) j u (hj : ((D k).map bcell)[j]? = some u) => show w1.cell? ((⟨w.heap.size + 1, k * 32, none⟩ : Addr).add j) = some u from by
      have h1 := Hcell.out k hk j u hj
      rw [Addr.add_lit] at h1 ⊢
      exact (hb1.cell (p := ⟨w.heap.size + 1, k * 32 + j, none⟩) hlt).trans h1)
    clear hc0 HN HA0 hlt Hcell hb1 S Hw0
    have hc0 := fun x : Later w1 => (lat_cell x w.heap.size 0 HN1.out.lt).trans (HN1.out.cell 0)
    have hc1 := fun x : Later w1 => (lat_cell x w.heap.size 1 HN1.out.lt).trans (HN1.out.cell 1)
    have hc2 := fun x : Later w1 => (lat_cell x w.heap.size 2 HN1.out.lt).trans (HN1.out.cell 2)
    have C1 := hid (fun (i t : Int) (x : Later w1) => secret_any seed a i t (lat x) hsl (HG.out.later (bth HA1.out (lat_below x))))
    have C2 := hid (fun (i t : Int) (x : Later w1) => rsecret_any seed a i t (lat x) hsl)
    have C0 := hid (fun (x : Later w1) => S2.out (lat x))
    have hsx := fun i t => secL_len seed a i t
    have hqx := fun (i t : Int) => (show (secL seed a i t == secL seed a i t) = true by simp)
    have hs3 := Tryd.sizeHash
    have hs5 := Tryd.sizeU8
    have hge := Tryd.guardHash3
    simp only [List.getElem?_toArray, List.getElem?_cons_zero, List.getElem?_cons_succ] at hc0 hc1 hc2
    refine wp_region_later (by kernel_rfl) (by kernel_rfl) ?_
    repeat (first
      | (refine wpQuiet_load_hcG rfl 42 _ rfl ⟨w.heap.size + 1, 0, none⟩ rfl (D 0) _ (by rintro _ ⟨q, rfl⟩; exact lat_cells q hlt1 (Hcell1.out 0 (by decide))) Tryd.underlying42 rfl (HSz.out 0) ?_; simp only [Act.put, List.setIfInBounds_toArray, List.set_cons_succ, List.set_cons_zero])
      | go_big_quiet_step ((first | (go_at_call 19; with_reducible exact calls_later (C0.out _)) | (go_at_call 20; with_reducible exact calls_later (C1.out _ _ _)) | (go_at_call 21; with_reducible exact calls_later (C2.out _ _ _)))))
    refine wpQuiet_nil ?_
    rintro _ ⟨q2, rfl⟩
    have hb2 := lat_below q2
    generalize lat q2 = w2 at *
    clear hc0 hc1 hc2 hqx hsx
    have HB2 := hid (bth HA1.out hb2)
    have Hcell2 := hid (fun k (hk : k < 2) j u (hj : ((D k).map bcell)[j]? = some u) => show w2.cell? ((⟨w.heap.size + 1, k * 32, none⟩ : Addr).add j) = some u from by
      have h1 := Hcell1.out k hk j u hj
      rw [Addr.add_lit] at h1 ⊢
      exact (hb2.cell (p := ⟨w.heap.size + 1, k * 32 + j, none⟩) hlt1).trans h1)
    have hlt2 := Nat.lt_of_lt_of_le hlt1 hb2.size
    have hgl : G.length ≤ 9223372036854775807 := by have := HGl.out; omega
    have R := hid (fun k w0 h0 => recover_any G (D k) w0 hgl (HD32.out k) h0)
    have R2 := hid (fun k w0 => rrecover_any G (D k) w0 hgl (HD32.out k))
    have HR := hid (fun k => recH_len G (D k))
    have Hsr := hid (fun k => show (Tryd.prog.info? 42).map (·.size) = some (recH G (D k)).length by rw [HR.out]; exact Tryd.sizeHash)
    clear hb2 Hcell1 hlt1 HN1 HA1 C0 C1 C2
    generalize hE : recE G = E at *
    have HE := hid hE; clear hE
    have hEq : (E != E) = false := by simp
    go_wp2_with fail
    go_loopw [8] (fun i wr => ∃ k : Nat, k ≤ 2 ∧ i = .int .i64 (k : Int) ∧ Below w2.heap.size w2 wr) (fun i _ => 2 - (intOf i).toNat)
    case atStart => exact ⟨0, by omega, rfl, Below.refl _ _⟩
    case round =>
      obtain ⟨k, hk, rfl, hb⟩ := hrel
      have Hbw := hid (bth HB2.out hb)
      by_cases hlt : k < 2
      · have hdk : decide ((k : Int) < 2) = true := by simp; omega
        have hcell : ∀ wx : World, Below wr.heap.size wr wx → ∀ j u, ((D k).map bcell)[j]? = some u → wx.cell? ((⟨w.heap.size + 1, k * 32, none⟩ : Addr).add j) = some u := fun wx hx j u hj => by
          have h1 := Hcell2.out k hlt j u hj
          rw [Addr.add_lit] at h1 ⊢
          exact ((bth hb hx).cell (p := ⟨w.heap.size + 1, k * 32 + j, none⟩) hlt2).trans h1
        have Hcell := hid hcell
        have hRk := HR.out k
        have hqR : (recH G (D k) == recH G (D k)) = true := by simp
        have HRk := hid hRk
        have Rk := hid (R.out k); have R2k := hid (R2.out k)
        have Hsrk := hid (Hsr.out k)
        generalize recH G (D k) = X at *
        have HX2 := hid (show (Tryd.prog.info? 42).map (·.size) = some (hc X).size by rw [hc_size]; exact Hsrk.out)
        have Hb := hid hb
        clear hcell hb Hcell2
        go_upto_region 10 with (first
          | ((with_reducible show wpList _ _ _ ({ dst := _, op := Op.load 42 _, type := _, pos := _, after := _, guard := _ } :: _) _ _); refine wpList_load_hc rfl 42 _ rfl ⟨w.heap.size + 1, k * 32, none⟩ rfl (D k) _ (Hcell.out _ (Below.refl _ _)) Tryd.underlying42 rfl (HSz.out k) ?_)
          | (go_at_call 22; refine (Rk.out _ (HG.out.later Hbw.out)).mono ?_; rintro e w3 ⟨rfl, hb3⟩)
          | ((with_reducible show wpList _ _ _ ({ dst := _, op := Op.store _ _ _, type := _, pos := _, after := _, guard := _ } :: _) _ (World.alloc w3 _)); refine wpList_store_new rfl 42 _ _ rfl rfl X rfl (hc zero32) 42 (by rw [HRk.out]; rfl) Hsrk.out ?_))
        show Code.wp _ _ _ _ (w3.alloc (.cells (hc X) 42))
        have Hb3 := hid (hb3.alloc hb3.size (.cells (hc X) 42))
        have HX3 := hid (Blk.new w3 (hc X) 42)
        clear hb3
        generalize w3.alloc (.cells (hc X) 42) = w4 at *
        generalize w3.heap.size = g3 at *
        go_upto_region 11 with (first
          | ((with_reducible show wpList _ _ _ ({ dst := _, op := Op.load 42 _, type := _, pos := _, after := _, guard := _ } :: _) _ _); refine wpList_load_hc rfl 42 _ rfl ⟨w.heap.size + 1, k * 32, none⟩ rfl (D k) _ (Hcell.out _ Hb3.out) Tryd.underlying42 rfl (HSz.out k) ?_)
          | (go_at_call 23; refine (R2k.out _).mono ?_; rintro e w5 ⟨rfl, hb5⟩)
          | ((with_reducible show wpList _ _ _ ({ dst := _, op := Op.store _ _ _, type := _, pos := _, after := _, guard := _ } :: _) _ (World.alloc w5 _)); refine wpList_store_new rfl 42 _ _ rfl rfl X rfl (hc zero32) 42 (by rw [HRk.out]; rfl) Hsrk.out ?_))
        show Code.wp _ _ _ _ (w5.alloc (.cells (hc X) 42))
        have Hb6 := hid ((bth Hb3.out hb5).alloc (bth Hb3.out hb5).size (.cells (hc X) 42))
        have HX5 := hid (Blk.new w5 (hc X) 42)
        have HX4 := hid ((HX3.out.later hb5).alloc (.cells (hc X) 42))
        clear hb5 Hb3 HX3
        generalize w5.alloc (.cells (hc X) 42) = w6 at *
        generalize w5.heap.size = g5 at *
        go_wp2_with (first
          | ((with_reducible show wpList _ _ _ ({ dst := _, op := Op.load 42 _, type := _, pos := _, after := _, guard := _ } :: _) _ _); first
            | (refine wpList_load_blk rfl 42 _ rfl g3 rfl _ (hc X) _ HX4.out Tryd.underlying42 rfl HX2.out ?_)
            | (refine wpList_load_blk rfl 42 _ rfl g5 rfl _ (hc X) _ HX5.out Tryd.underlying42 rfl HX2.out ?_)))
        go_roundw
        case rel => exact ⟨k + 1, by omega, by go_num, bth Hb.out Hb6.out⟩
        case measure => simp [intOf]; omega
      · obtain rfl : k = 2 := by omega
        have hdk : decide ((2 : Int) < 2) = false := by decide
        go_wp2_with fail
        refine (keyed_any _ (HG.out.later Hbw.out)).mono ?_
        rintro e w8 ⟨rfl, hb8⟩
        go_wp2
        go_ret
        exact ⟨rfl, bth Hbw.out hb8⟩
end Go.Proofs.YtchpoggegdocpaaDoor
