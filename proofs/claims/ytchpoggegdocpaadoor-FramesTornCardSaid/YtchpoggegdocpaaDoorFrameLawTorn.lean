/- the law FramesTorn: the walk -/
import Derived.Test.YtchpoggegdocpaaDoorFrameLawRow
import Derived.Test.YtchpoggegdocpaaDoorFrameLawLong
set_option maxRecDepth 100000
namespace Go.Proofs.YtchpoggegdocpaaDoor
open Go.RowKit Go.Spec
theorem StrsAt.takeS {w : World} {a : Option Addr} {n cap : Nat} {ls : List (List UInt8)} (h : StrsAt w (.slice a n cap) ls) (k : Nat) (hk : k ≤ ls.length) : StrsAt w (.slice a k cap) (ls.take k) := by
  have := SlAt.takeS h k (by rw [scells_length]; exact hk)
  unfold StrsAt scells at *
  rwa [← List.map_take] at this
set_option maxHeartbeats 4000000 in
theorem framesTorn_law (v : Value) (ls : List (List UInt8)) (p z : Nat) (w : World) (hS : StrsAt w v ls) (hl : ls.length ≤ 9223372036854775807) (hp : p < 65536) (hz : z < 256) (hG : ShaG w) :
    Calls Tryd.prog 5 #[v, .int .u16 (p : Int), .int .u8 (z : Int)] w fun e w' => e = .returned (.bool true) ∧ Below w.heap.size w w' := by
  have HG := hid hG; clear hG
  obtain ⟨i0, hi, hz0, hz1, hz2⟩ := info_parts Tryd.infoU8k
  have R := hid (row_any v ls w hS hl)
  have Fr := hid (fun w0 h0 => framed_any w0 h0)
  obtain ⟨av, cv, rfl, hcv⟩ := hS.form
  have HS := hid hS
  clear hS
  go_enter Tryd.func5, Tryd.ntmps5
  go_wp2_with fail
  refine R.out.mono ?_
  intro e w1 ho
  rcases ho with ⟨hno, rfl, hb1⟩ | ⟨hok, ⟨vi, rfl, hv⟩, hb1⟩
  · clear hno
    go_wp2_with (go_at_call 10; refine (Fr.out _ (HG.out.later hb1)).mono ?_; rintro e w5 ⟨rfl, hb5⟩)
    go_ret
    exact ⟨rfl, bth hb1 hb5⟩
  · obtain ⟨g, cap, rfl, hg, hcell⟩ := ends_row hv
    have hfl := frames_le ls hok.2
    have hl20 := hok.1
    have h655 : ∀ q ∈ ls, q.length ≤ 65536 := fun q hq => by have := hok.2 q hq; omega
    obtain ⟨k, hk⟩ : ∃ k, p % ((framesL ls).length + 1) = k := ⟨_, rfl⟩
    have hkl : k ≤ (framesL ls).length := by have := Nat.mod_lt p (show 0 < (framesL ls).length + 1 by omega); omega
    have ek : (p : Int) % (((framesL ls).length : Int) + 1) = (k : Int) := by rw [← hk]; simp
    have HW := hid (fun m h1 h2 h3 => whole_torn ls h655 k m hkl h1 h2 h3)
    have hWz := whole_frames ls (List.replicate z 0) h655
    rw [wholeL_none (cutF_zeros z), List.append_nil] at hWz
    have HWz := hid hWz
    have HA := hid (ends_all ls)
    have H0 := hid (ends_zero ls)
    have Hcell := hid hcell
    have Hels := hid (fun j => ends_le ls j)
    have hGl : (framesL ls).length ≤ 10240 := by omega
    clear hcell hv hok hfl h655 hWz hk
    generalize framesL ls = G at *
    go_wp2
    go_loop [11] (fun t => ∃ m : Nat, m ≤ ls.length ∧ endsL ls m ≤ k ∧ t = .int .i64 (m : Int)) (fun t => ls.length - (intOf t).toNat)
    case atStart => exact ⟨0, by omega, by rw [H0.out]; omega, rfl⟩
    case round =>
      obtain ⟨m, hm, hme, rfl⟩ := hrel
      by_cases hlt : m < ls.length
      · have hc := Hcell.out (m + 1) (by omega)
        have hel := Hels.out (m + 1)
        have Hnext := hid (HW.out m hm hme)
        by_cases hle : endsL ls (m + 1) ≤ k
        · clear Hnext
          generalize hE : endsL ls (m + 1) = E at *
          have HE := hid hE; clear hE
          have d1 : decide ((E : Int) ≤ (k : Int)) = true := by simp; omega
          have d2 : decide ((m : Int) + 1 < (ls.length : Int) + 1) = true := by simp; omega
          go_wp2
          go_round
          case rel => exact ⟨m + 1, by omega, by rw [HE.out]; exact hle, by go_num⟩
          case measure => simp [intOf]; omega
        · have hc' := hc
          have hd1 : decide (((endsL ls (m + 1) : Nat) : Int) ≤ (k : Int)) = false := by simp; omega
          have d2 : decide ((m : Int) + 1 < (ls.length : Int) + 1) = true := by simp; omega
          have Hw := hid (Hnext.out (fun _ => by omega))
          have hle2 : k < endsL ls (m + 1) := by omega
          clear Hnext hc hle
          generalize endsL ls (m + 1) = E1 at *
          have hcm := Hcell.out m hm
          have helm := Hels.out m
          have W1 := fun w0 h0 => whole_any (G.take k) w0 (by rw [List.length_take]; omega) h0
          rw [Hw.out.1, show (G.take k).length - (wholeL (G.take k)).2.length = endsL ls m by have := Hw.out.2; rw [List.length_take]; omega] at W1
          have e2 : (G ++ List.replicate z (0 : UInt8)).length - (List.replicate z (0 : UInt8)).length = G.length := by simp
          have W2 : ∀ w0, ShaG w0 → Calls Tryd.prog 15 #[sv (G ++ List.replicate z 0)] w0 fun e w' => (∃ v, e = .returned (.tuple #[v, .int .i64 (G.length : Int)]) ∧ w'.ownsRow w0.heap.size 9 1 v ls.length (ls.map sv)) ∧ Below w0.heap.size w0 w' := fun w0 h0 => by
            have := whole_any (G ++ List.replicate z 0) w0 (by rw [List.length_append, List.length_replicate]; omega) h0
            rw [HWz.out] at this
            rw [← e2]
            exact this
          have HW1 := hid W1; have HW2 := hid W2
          have HT := hid (HS.out.takeS m hm)
          have T1 := hid (fun va w0 h1 h2 => texts_any va (.slice av m cv) (ls.take m) (ls.take m) w0 h1 h2 (by rw [List.length_take]; omega) (by rw [List.length_take]; omega))
          have T2 := hid (fun va w0 h1 h2 => texts_any va (.slice av ls.length cv) ls ls w0 h1 h2 (by omega) (by omega))
          have hmk := run_make_bytes (P := Tryd.prog) 35 5 i0 Tryd.underlying35 hi hz0 hz1 hz2 z (by omega)
          have hcvz := fun w0 => zeros_conv w0 z
          have hzl : (List.replicate z (0 : UInt8)).length = z := by simp
          have hmI : (m : Int) ≤ (ls.length : Int) := by omega
          have hmI2 : (m : Int) < (ls.length : Int) + 1 := by omega
          have hmC : (m : Int) ≤ (cv : Int) := by omega
          have hkI : (k : Int) ≤ (G.length : Int) := by omega
          have hq1 : (ls == ls) = true := by simp
          have hq2 : (ls.take m == ls.take m) = true := by simp
          clear W1 W2 Hw e2
          generalize endsL ls m = E at *
          generalize List.replicate z (0 : UInt8) = Z at *
          generalize hLm : ls.take m = Lm at *
          have HLm := hid hLm; clear hLm
          go_upto_region 9 with (go_at_call 15; refine (HW1.out _ (HG.out.later hb1)).mono ?_; rintro e w2 ⟨⟨v1, rfl, hv1⟩, hb2⟩)
          have hA1 := StrsAt.of_owns hv1
          have HB2 := bth hb1 hb2
          have HB3 := HB2.alloc HB2.size (.cells (hc Z) 5)
          have hcg := hcm
          clear hv1
          go_upto_region 10 with (go_at_call 15; refine (HW2.out _ (HG.out.later HB3)).mono ?_; rintro e w3 ⟨⟨v2, rfl, hv2⟩, hb3⟩)
          have hB1 := StrsAt.of_owns hv2
          have hA2 := (hA1.below ((Below.refl _ w2).alloc (Nat.le_refl _) (.cells (hc Z) 5))).below hb3
          have HB4 := bth HB3 hb3
          have hcf : w3.cell? ⟨g, m, none⟩ = some (.int .i64 (E : Int)) := by
            have h1 := hb2.cell (p := ⟨g, m, none⟩) (World.block_lt_of_cell? _ _ hcm)
            have h2 := ((Below.refl _ w2).alloc (Nat.le_refl _) (.cells (hc Z) 5)).cell (p := ⟨g, m, none⟩) (World.block_lt_of_cell? _ _ (h1.trans hcm))
            have h3 := hb3.cell (p := ⟨g, m, none⟩) (World.block_lt_of_cell? _ _ (h2.trans (h1.trans hcm)))
            exact h3.trans (h2.trans (h1.trans hcm))
          have HA2 := hid hA2; have HB1 := hid hB1
          clear hA1 hA2 hB1 hv2 hb2 hb3 hcm hcg HB2 HB3
          go_wp2_with (first
            | (go_at_call 16; first | ((with_reducible refine (T1.out _ _ HA2.out (HT.out.below HB4)).mono ?_); rintro e w4 ⟨rfl, hb4⟩; have hcf2 := (hb4.cell (p := ⟨g, m, none⟩) (World.block_lt_of_cell? _ _ hcf)).trans hcf) | ((with_reducible refine (T2.out _ _ (HB1.out.below hb4) (HS.out.below (bth HB4 hb4))).mono ?_); rintro e w5 ⟨rfl, hb5⟩; have HB6 := bth (bth HB4 hb4) hb5; clear hb4 hb5))
            | (go_at_call 10; refine (Fr.out _ (HG.out.later HB6)).mono ?_; rintro e w6 ⟨rfl, hb6⟩))
          go_ret
          exact ⟨rfl, bth HB6 hb6⟩
      · have d2 : decide ((m : Int) + 1 < (ls.length : Int) + 1) = false := by simp; omega
        have Hw := hid (HW.out m hm hme (fun h => by omega))
        have hcm := Hcell.out m hm
        have helm := Hels.out m
        have W1 := fun w0 h0 => whole_any (G.take k) w0 (by rw [List.length_take]; omega) h0
        rw [Hw.out.1, show (G.take k).length - (wholeL (G.take k)).2.length = endsL ls m by have := Hw.out.2; rw [List.length_take]; omega] at W1
        have e2 : (G ++ List.replicate z (0 : UInt8)).length - (List.replicate z (0 : UInt8)).length = G.length := by simp
        have W2 : ∀ w0, ShaG w0 → Calls Tryd.prog 15 #[sv (G ++ List.replicate z 0)] w0 fun e w' => (∃ v, e = .returned (.tuple #[v, .int .i64 (G.length : Int)]) ∧ w'.ownsRow w0.heap.size 9 1 v ls.length (ls.map sv)) ∧ Below w0.heap.size w0 w' := fun w0 h0 => by
          have := whole_any (G ++ List.replicate z 0) w0 (by rw [List.length_append, List.length_replicate]; omega) h0
          rw [HWz.out] at this
          rw [← e2]
          exact this
        have HW1 := hid W1; have HW2 := hid W2
        have HT := hid (HS.out.takeS m hm)
        have T1 := hid (fun va w0 h1 h2 => texts_any va (.slice av m cv) (ls.take m) (ls.take m) w0 h1 h2 (by rw [List.length_take]; omega) (by rw [List.length_take]; omega))
        have T2 := hid (fun va w0 h1 h2 => texts_any va (.slice av ls.length cv) ls ls w0 h1 h2 (by omega) (by omega))
        have hmk := run_make_bytes (P := Tryd.prog) 35 5 i0 Tryd.underlying35 hi hz0 hz1 hz2 z (by omega)
        have hcvz := fun w0 => zeros_conv w0 z
        have hzl : (List.replicate z (0 : UInt8)).length = z := by simp
        have hmI : (m : Int) ≤ (ls.length : Int) := by omega
        have hmI2 : (m : Int) < (ls.length : Int) + 1 := by omega
        have hmC : (m : Int) ≤ (cv : Int) := by omega
        have hkI : (k : Int) ≤ (G.length : Int) := by omega
        have hq1 : (ls == ls) = true := by simp
        have hq2 : (ls.take m == ls.take m) = true := by simp
        clear W1 W2 Hw e2
        generalize endsL ls m = E at *
        generalize List.replicate z (0 : UInt8) = Z at *
        generalize hLm : ls.take m = Lm at *
        have HLm := hid hLm; clear hLm
        go_upto_region 9 with (go_at_call 15; refine (HW1.out _ (HG.out.later hb1)).mono ?_; rintro e w2 ⟨⟨v1, rfl, hv1⟩, hb2⟩)
        have hA1 := StrsAt.of_owns hv1
        have HB2 := bth hb1 hb2
        have HB3 := HB2.alloc HB2.size (.cells (hc Z) 5)
        have hcg := hcm
        clear hv1
        go_upto_region 10 with (go_at_call 15; refine (HW2.out _ (HG.out.later HB3)).mono ?_; rintro e w3 ⟨⟨v2, rfl, hv2⟩, hb3⟩)
        have hB1 := StrsAt.of_owns hv2
        have hA2 := (hA1.below ((Below.refl _ w2).alloc (Nat.le_refl _) (.cells (hc Z) 5))).below hb3
        have HB4 := bth HB3 hb3
        have hcf : w3.cell? ⟨g, m, none⟩ = some (.int .i64 (E : Int)) := by
          have h1 := hb2.cell (p := ⟨g, m, none⟩) (World.block_lt_of_cell? _ _ hcm)
          have h2 := ((Below.refl _ w2).alloc (Nat.le_refl _) (.cells (hc Z) 5)).cell (p := ⟨g, m, none⟩) (World.block_lt_of_cell? _ _ (h1.trans hcm))
          have h3 := hb3.cell (p := ⟨g, m, none⟩) (World.block_lt_of_cell? _ _ (h2.trans (h1.trans hcm)))
          exact h3.trans (h2.trans (h1.trans hcm))
        have HA2 := hid hA2; have HB1 := hid hB1
        clear hA1 hA2 hB1 hv2 hb2 hb3 hcm hcg HB2 HB3
        go_wp2_with (first
          | (go_at_call 16; first | ((with_reducible refine (T1.out _ _ HA2.out (HT.out.below HB4)).mono ?_); rintro e w4 ⟨rfl, hb4⟩; have hcf2 := (hb4.cell (p := ⟨g, m, none⟩) (World.block_lt_of_cell? _ _ hcf)).trans hcf) | ((with_reducible refine (T2.out _ _ (HB1.out.below hb4) (HS.out.below (bth HB4 hb4))).mono ?_); rintro e w5 ⟨rfl, hb5⟩; have HB6 := bth (bth HB4 hb4) hb5; clear hb4 hb5))
          | (go_at_call 10; refine (Fr.out _ (HG.out.later HB6)).mono ?_; rintro e w6 ⟨rfl, hb6⟩))
        go_ret
        exact ⟨rfl, bth HB6 hb6⟩
end Go.Proofs.YtchpoggegdocpaaDoor
