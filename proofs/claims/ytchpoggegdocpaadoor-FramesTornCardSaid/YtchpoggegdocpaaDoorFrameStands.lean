/- speculumlaw12.stands, framed -/
import Derived.Test.YtchpoggegdocpaaDoorTexts
import Derived.Test.YtchpoggegdocpaaDoorRefFrame2
set_option maxRecDepth 100000
namespace Go.Proofs.YtchpoggegdocpaaDoor
open Go.RowKit Go.Spec
theorem wholeF_le : ∀ (f : Nat) (l : List UInt8), (wholeF f l).1.length ≤ f
  | 0, l => by simp [wholeF]
  | f + 1, l => by
    cases hc : cutF l with
    | none => simp [wholeF, hc]
    | some pr =>
      obtain ⟨p, r⟩ := pr
      have := wholeF_le f r
      simp only [wholeF, hc, List.length_cons]; omega
theorem wholeL_le (l : List UInt8) : (wholeL l).1.length ≤ l.length := wholeF_le _ _
set_option maxHeartbeats 1000000 in
theorem stands_any (s : List UInt8) (k : Int) (w : World) (hl : s.length ≤ 1000000) (hk : -9223372036854775808 ≤ k ∧ k ≤ 9223372036854775807) (hG : ShaG w) :
    Calls Tryd.prog 13 #[sv s, .int .i64 k] w fun e w' => e = .returned (.bool true) ∧ Below w.heap.size w w' := by
  have HG := hid hG; clear hG
  have F1 := fun w0 h0 => fget_any s k w0 hl hk h0
  have F2 := fun w0 => rfget_any s k w0 hl hk
  have W1 := fun w0 h0 => whole_any s w0 hl h0
  have W2 := fun w0 => rwhole_any s w0 hl
  have hle := wholeL_le s
  generalize fgetL s k = x at *
  generalize (wholeL s).1 = ps at *
  generalize s.length - (wholeL s).2.length = en at *
  obtain ⟨p, n, b⟩ := x
  have G1 := hid (show ∀ w0, ShaG w0 → Calls Tryd.prog 29 #[sv s, .int .i64 k] w0 fun e w' => e = .returned (.tuple #[sv p, .int .i64 (n : Int), .bool b]) ∧ Below w0.heap.size w0 w' from F1)
  have G2 := hid (show ∀ w0, Calls Tryd.prog 33 #[sv s, .int .i64 k] w0 fun e w' => e = .returned (.tuple #[sv p, .int .i64 (n : Int), .bool b]) ∧ Below w0.heap.size w0 w' from F2)
  have W1 := hid W1; have W2 := hid W2
  have HB := Below.refl w.heap.size w
  have hq : (ps == ps) = true := by simp
  have hqp : (p == p) = true := by simp
  clear F1 F2
  go_enter Tryd.func13, Tryd.ntmps13
  go_upto_region 5 with (first
    | (go_at_call 29; refine (G1.out _ HG.out).mono ?_; rintro e w1 ⟨rfl, hb1⟩)
    | (go_at_call 33; refine (G2.out _).mono ?_; rintro e w2 ⟨rfl, hb2⟩)
    | (go_at_call 15; refine (W1.out _ (HG.out.later (bth hb1 hb2))).mono ?_; rintro e w3 ⟨⟨va, rfl, hva⟩, hb3⟩)
    | (go_at_call 34; refine (W2.out _).mono ?_; rintro e w4 ⟨⟨vb, rfl, hvb⟩, hb4⟩))
  have hA := (StrsAt.of_owns hva).below hb4
  have hB := StrsAt.of_owns hvb
  have HB4 := bth (bth (bth hb1 hb2) hb3) hb4
  clear hva hvb hb1 hb2 hb3 hb4
  go_wp2_with (go_at_call 16; refine (texts_any va vb ps ps _ hA hB (by omega) (by omega)).mono ?_; rintro e w5 ⟨rfl, hb5⟩)
  go_ret
  exact ⟨rfl, bth HB4 hb5⟩
/- the example -/
def fab : List UInt8 := frameL [97, 98]
theorem fab_len : fab.length = 14 := by decide +kernel
theorem fab_4 : fab.take 4 = [0, 0, 0, 2] := by decide +kernel
theorem fab_12 : fab.drop 12 = [97, 98] := by decide +kernel
theorem fab_g0 : fgetL fab 0 = ([97, 98], 14, true) := by decide +kernel
theorem fab_g1 : fgetL fab 1 = ([], 0, false) := by decide +kernel
theorem fab_w1 : wholeL (fab ++ fab) = ([[97, 98], [97, 98]], []) := by decide +kernel
theorem fab_w2 : (wholeL ((fab ++ fab).take 27)).1 = [[97, 98]] ∧ (wholeL ((fab ++ fab).take 27)).2.length = 13 := by decide +kernel
set_option maxHeartbeats 2000000 in
theorem framed_any (w : World) (hG : ShaG w) :
    Calls Tryd.prog 10 #[] w fun e w' => e = .returned (.bool true) ∧ Below w.heap.size w w' := by
  have HG := hid hG; clear hG
  have hlen := fab_len
  have h4 := fab_4
  have h12 := fab_12
  have P1 := hid (show ∀ w0, ShaG w0 → Calls Tryd.prog 11 #[.string ⟨#[97, 98]⟩] w0 fun e w' => e = .returned (.tuple #[sv fab, .int .i64 0]) ∧ Below w0.heap.size w0 w' from fun w0 h0 => fput_any [97, 98] w0 (by decide) h0)
  have F0 := fun w0 h0 => fget_any fab 0 w0 (by rw [hlen]; decide) (by decide) h0
  rw [fab_g0] at F0
  have F1 := fun w0 h0 => fget_any fab 1 w0 (by rw [hlen]; decide) (by decide) h0
  rw [fab_g1] at F1
  have G0 := hid (show ∀ w0, ShaG w0 → Calls Tryd.prog 29 #[sv fab, .int .i64 0] w0 fun e w' => e = .returned (.tuple #[sv [97, 98], .int .i64 14, .bool true]) ∧ Below w0.heap.size w0 w' from F0)
  have G1 := hid (show ∀ w0, ShaG w0 → Calls Tryd.prog 29 #[sv fab, .int .i64 1] w0 fun e w' => e = .returned (.tuple #[sv [], .int .i64 0, .bool false]) ∧ Below w0.heap.size w0 w' from F1)
  have hl2 : (fab ++ fab).length = 28 := by rw [List.length_append, hlen]
  have hl27 : ((fab ++ fab).take 27).length = 27 := by rw [List.length_take, hl2]; rfl
  have W0 := fun w0 h0 => whole_any (fab ++ fab) w0 (by rw [hl2]; decide) h0
  rw [fab_w1, hl2] at W0
  have W1 := fun w0 h0 => whole_any ((fab ++ fab).take 27) w0 (by rw [hl27]; decide) h0
  rw [fab_w2.1, fab_w2.2, hl27] at W1
  have WA := hid (show ∀ w0, ShaG w0 → Calls Tryd.prog 15 #[sv (fab ++ fab)] w0 fun e w' => (∃ v, e = .returned (.tuple #[v, .int .i64 28]) ∧ w'.ownsRow w0.heap.size 9 1 v 2 ([[97, 98], [97, 98]].map sv)) ∧ Below w0.heap.size w0 w' from W0)
  have WB := hid (show ∀ w0, ShaG w0 → Calls Tryd.prog 15 #[sv ((fab ++ fab).take 27)] w0 fun e w' => (∃ v, e = .returned (.tuple #[v, .int .i64 14]) ∧ w'.ownsRow w0.heap.size 9 1 v 1 ([[97, 98]].map sv)) ∧ Below w0.heap.size w0 w' from W1)
  have ht14 : fab.take 14 = fab := by rw [List.take_of_length_le (by rw [hlen]; decide)]
  clear F0 F1 W0 W1 hl27
  generalize fab = F at *
  have HB := Below.refl w.heap.size w
  have hl28 : 27 ≤ F.length + F.length := by omega
  go_enter Tryd.func10, Tryd.ntmps10
  go_upto_region 8 with (first
    | (go_at_call 11; refine (P1.out _ HG.out).mono ?_; rintro e w1 ⟨rfl, hb1⟩)
    | (go_at_call 29; first | ((with_reducible refine (G0.out _ (HG.out.later hb1)).mono ?_); rintro e w2 ⟨rfl, hb2⟩) | ((with_reducible refine (G1.out _ (HG.out.later (bth hb1 hb2))).mono ?_); rintro e w3 ⟨rfl, hb3⟩))
    | (go_at_call 15; first | ((with_reducible refine (WA.out _ (HG.out.later (bth (bth hb1 hb2) hb3))).mono ?_); rintro e w4 ⟨⟨va, rfl, hva⟩, hb4⟩) | ((with_reducible refine (WB.out _ (HG.out.later (bth (bth (bth hb1 hb2) hb3) hb4))).mono ?_); rintro e w5 ⟨⟨vb, rfl, hvb⟩, hb5⟩)))
  have hA := (StrsAt.of_owns (ls := [[97, 98], [97, 98]]) hva).below hb5
  have hB := StrsAt.of_owns (ls := [[97, 98]]) hvb
  have HB5 := bth (bth (bth (bth hb1 hb2) hb3) hb4) hb5
  have T1 := hid (fun v0 w0 h1 h2 => texts_any va v0 [[97, 98], [97, 98]] [[97, 98], [97, 98]] w0 h1 h2 (by decide) (by decide))
  have T2 := hid (fun v0 w0 h1 h2 => texts_any vb v0 [[97, 98]] [[97, 98]] w0 h1 h2 (by decide) (by decide))
  have hL1 : StrsAt (w5.alloc (.cells #[sv [97, 98], sv [97, 98]] 9)) (.slice (some ⟨w5.heap.size, 0, none⟩) 2 2) [[97, 98], [97, 98]] := Blk.strs (ls := [[97, 98], [97, 98]]) (Blk.new w5 #[sv [97, 98], sv [97, 98]] 9) (by decide)
  have hL2 : ∀ w6 : World, StrsAt (w6.alloc (.cells #[sv [97, 98]] 9)) (.slice (some ⟨w6.heap.size, 0, none⟩) 1 1) [[97, 98]] := fun w6 => Blk.strs (ls := [[97, 98]]) (Blk.new w6 #[sv [97, 98]] 9) (by decide)
  have hA1 := hA.below ((Below.refl _ w5).alloc (Nat.le_refl _) (.cells #[sv [97, 98], sv [97, 98]] 9))
  have Hs := hid (And.intro hL1 hA1); have Hs2 := hid (And.intro hL2 hB)
  clear hva hvb hb1 hb2 hb3 hb4 hb5 hA hB hL1 hA1 hL2
  have HB6 := HB5.alloc HB5.size (.cells #[sv [97, 98], sv [97, 98]] 9)
  go_wp2_with fail
  refine (T1.out _ _ Hs.out.2 Hs.out.1).mono ?_
  rintro e w6 ⟨rfl, hb6⟩
  have HB7 := bth HB6 hb6
  have hB6 := (Hs2.out.2.below ((Below.refl _ w5).alloc (Nat.le_refl _) (.cells #[sv [97, 98], sv [97, 98]] 9))).below hb6
  have HB8 := HB7.alloc HB7.size (.cells #[sv [97, 98]] 9)
  have hB8 := hid (hB6.below ((Below.refl _ w6).alloc (Nat.le_refl _) (.cells #[sv [97, 98]] 9)))
  clear hB6 hb6
  go_wp2_with fail
  refine (T2.out _ _ hB8.out (Hs2.out.1 w6)).mono ?_
  rintro e w7 ⟨rfl, hb7⟩
  go_wp2
  go_ret
  exact ⟨rfl, bth HB8 hb7⟩
end Go.Proofs.YtchpoggegdocpaaDoor
