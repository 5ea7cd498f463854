/- speculumlaw28.written: the walk -/
import Derived.Test.YtdefipnmjfnpeaaDoorQScrEx

set_option maxRecDepth 100000
namespace Go.Proofs.YtdefipnmjfnpeaaDoor
open Go.RowKit Go.Spec
def threeC : Array Value := w0S.cs ++ w1S.cs ++ w2S.cs
theorem three_at (w : World) : StpsAt (w.alloc (.cells threeC 28)) (.slice (some ⟨w.heap.size, 0, none⟩) 3 3) [w0S, w1S, w2S] :=
  StpsAt.of_owns (base := 0) (Blk.owns (Blk.new w threeC 28) (size := 5) (n := 3) (Nat.zero_le _) (by decide) rfl)
theorem stps_cell {w : World} {b o n c : Nat} {xs : List Stp} {x : Stp} {i : Nat} (h : StpsAt w (.slice (some ⟨b, o, none⟩) n c) xs) (hi : xs[i]? = some x) (W : World) (hb : Below w.heap.size w W) :
    ∀ j v, x.cs.toList[j]? = some v → W.cell? ((⟨b, o + i * 5, none⟩ : Addr).add j) = some v := by
  obtain ⟨b', o', e, _, _, hc⟩ := (SlAt.below h hb (Nat.le_refl _)).at (i := i) (cs := x.cs.toList) (by rw [List.getElem?_map, hi]; rfl)
  obtain ⟨rfl, rfl⟩ : b = b' ∧ o = o' := by simpa using e
  exact hc
theorem stps_base {w : World} {a : Option Addr} {n c : Nat} {xs : List Stp} (h : StpsAt w (.slice a n c) xs) (h0 : 0 < xs.length) : ∃ b o, a = some ⟨b, o, none⟩ := by
  obtain ⟨b, o, e, _⟩ := SlAt.at h (i := 0) (cs := (xs[0]).cs.toList) (by rw [List.getElem?_map, List.getElem?_eq_getElem h0]; rfl)
  exact ⟨b, o, e⟩
theorem guardStep : Tryd.prog.eqGuardType Tryd.prog.depth 28 = false := by kernel_rfl
theorem same11 : (!(lineL w1S == []) && lineL w1S == lineL w1S) = true := by rw [line1]; rfl
theorem same01 : (!(lineL w0S == []) && lineL w0S == lineL w1S) = false := by rw [line0, line1]; rfl
theorem samezz : (!(lineL ⟨0, 0, 0, 0, []⟩ == []) && lineL ⟨0, 0, 0, 0, []⟩ == lineL ⟨0, 0, 0, 0, []⟩) = false := rfl
theorem same24 : (!(lineL ⟨2, 4, 0, 0, []⟩ == []) && lineL ⟨2, 4, 0, 0, []⟩ == lineL ⟨2, 0, 0, 0, []⟩) = true := rfl
theorem i64_small (k a b c : Int) (t : List UInt8) (h : (-100 ≤ a ∧ a ≤ 100) ∧ (-100 ≤ b ∧ b ≤ 100) ∧ (-100 ≤ c ∧ c ≤ 100)) (ht : t.length ≤ 100) : I64 ⟨k, a, b, c, t⟩ ∧ (Stp.mk k a b c t).text.length ≤ 100000000 := by
  refine ⟨⟨?_, ?_, ?_⟩, ?_⟩ <;> simp only <;> omega
set_option maxHeartbeats 16000000 in
theorem written_any (w : World) (hG : ScrG w) : Calls Tryd.prog 7 #[] w fun e w' => e = .returned (.bool true) ∧ Below w.heap.size w w' := by
  have HG := hid hG; clear hG
  have C1 := hid (show ∀ w0, ScrG w0 → Calls Tryd.prog 10 #[.string ⟨#[97, 112, 112, 101, 110, 100, 32, 120, 54, 49, 10, 116, 105, 99, 107, 32, 49, 32, 48, 10, 105, 110, 106, 101, 99, 116, 32, 51, 32, 49, 32, 120, 53, 50, 10]⟩] w0 fun e w' => (∃ a c, e = .returned (.tuple #[.slice a 3 c, .int .i64 0, .int .i64 0]) ∧ StpsAt w' (.slice a 3 c) [w0S, w1S, w2S]) ∧ Below w0.heap.size w0 w' from fun w0 h => get_ok s1L _ get1 w0 (by decide) h)
  have C2 := hid (show ∀ w0, ScrG w0 → Calls Tryd.prog 10 #[.string ⟨#[112, 117, 98, 108, 105, 115, 104, 10, 112, 117, 98, 108, 105, 115, 104, 32]⟩] w0 fun e w' => e = .returned (.tuple #[.slice none 0 0, .int .i64 2, .int .i64 10]) ∧ Below w0.heap.size w0 w' from fun w0 h => get_bad s2L _ _ get2 (by decide) w0 (by decide) h)
  have C3 := hid (show ∀ w0, ScrG w0 → Calls Tryd.prog 10 #[.string ⟨#[112, 117, 98, 108, 105, 115, 104]⟩] w0 fun e w' => e = .returned (.tuple #[.slice none 0 0, .int .i64 1, .int .i64 10]) ∧ Below w0.heap.size w0 w' from fun w0 h => get_bad s3L _ _ get3 (by decide) w0 (by decide) h)
  have C4 := hid (show ∀ w0, ScrG w0 → Calls Tryd.prog 10 #[.string ⟨#[97, 112, 112, 101, 110, 100, 32, 120, 52, 65, 10]⟩] w0 fun e w' => e = .returned (.tuple #[.slice none 0 0, .int .i64 1, .int .i64 10]) ∧ Below w0.heap.size w0 w' from fun w0 h => get_bad s4L _ _ get4 (by decide) w0 (by decide) h)
  have C5 := hid (show ∀ w0, ScrG w0 → Calls Tryd.prog 10 #[.string ⟨#[116, 105, 99, 107, 32, 49, 32, 48, 48, 10]⟩] w0 fun e w' => e = .returned (.tuple #[.slice none 0 0, .int .i64 1, .int .i64 10]) ∧ Below w0.heap.size w0 w' from fun w0 h => get_bad s5L _ _ get5 (by decide) w0 (by decide) h)
  have hE := hid (show ∀ w', (Op.equalIn 10000 28 (.agg w2S.cs) (.agg w2S.cs)).run Tryd.prog w' = .ok true w' from fun w' => by kernel_rfl)
  have P1 := hid (fun w0 (h0 : ScrG w0) (v : Value) (hS : StpsAt w0 v [w0S, w1S, w2S]) => put_any v [w0S, w1S, w2S] w0 hS (by decide) (fun x hx => by
    simp at hx
    rcases hx with rfl | rfl | rfl
    · exact i64_small _ _ _ _ _ (by omega) (by decide)
    · exact i64_small _ _ _ _ _ (by omega) (by decide)
    · exact i64_small _ _ _ _ _ (by omega) (by decide)) (by rw [flat1]; decide) h0)
  rw [flat1] at P1
  have P1 := hid (show ∀ w0, ScrG w0 → ∀ v, StpsAt w0 v [w0S, w1S, w2S] → Calls Tryd.prog 12 #[v] w0 fun e w' => e = .returned (.string ⟨#[97, 112, 112, 101, 110, 100, 32, 120, 54, 49, 10, 116, 105, 99, 107, 32, 49, 32, 48, 10, 105, 110, 106, 101, 99, 116, 32, 51, 32, 49, 32, 120, 53, 50, 10]⟩) ∧ Below w0.heap.size w0 w' from P1.out)
  have S11 := hid (fun w0 h0 => same_any w1S w1S w0 (i64_small _ _ _ _ _ (by omega) (by decide)) (i64_small _ _ _ _ _ (by omega) (by decide)) h0)
  have S01 := hid (fun w0 h0 => same_any w0S w1S w0 (i64_small _ _ _ _ _ (by omega) (by decide)) (i64_small _ _ _ _ _ (by omega) (by decide)) h0)
  have Szz := hid (fun w0 h0 => same_any ⟨0, 0, 0, 0, []⟩ ⟨0, 0, 0, 0, []⟩ w0 (i64_small _ _ _ _ _ (by omega) (by decide)) (i64_small _ _ _ _ _ (by omega) (by decide)) h0)
  have S24 := hid (fun w0 h0 => same_any ⟨2, 4, 0, 0, []⟩ ⟨2, 0, 0, 0, []⟩ w0 (i64_small _ _ _ _ _ (by omega) (by decide)) (i64_small _ _ _ _ _ (by omega) (by decide)) h0)
  rw [same11] at S11; rw [same01] at S01; rw [samezz] at Szz; rw [same24] at S24
  have Szz := hid (show ∀ w0, ScrG w0 → Calls Tryd.prog 8 #[.agg #[.int .i64 0, .int .i64 0, .int .i64 0, .int .i64 0, .string ⟨#[]⟩], .agg #[.int .i64 0, .int .i64 0, .int .i64 0, .int .i64 0, .string ⟨#[]⟩]] w0 fun e w' => e = .returned (.bool false) ∧ Below w0.heap.size w0 w' from Szz.out)
  have S24 := hid (show ∀ w0, ScrG w0 → Calls Tryd.prog 8 #[.agg #[.int .i64 2, .int .i64 4, .int .i64 0, .int .i64 0, .string ⟨#[]⟩], .agg #[.int .i64 2, .int .i64 0, .int .i64 0, .int .i64 0, .string ⟨#[]⟩]] w0 fun e w' => e = .returned (.bool true) ∧ Below w0.heap.size w0 w' from S24.out)
  unfold Stp.v at S11 S01
  go_enter Tryd.func7, Tryd.ntmps7
  go_upto_region 2 with fail
  refine wp_world (fun W => StpsAt W (.slice (some ⟨w.heap.size, 0, none⟩) 3 3) [w0S, w1S, w2S] ∧ Below w.heap.size w W) ⟨three_at w, (Below.refl _ w).alloc (Nat.le_refl _) _⟩ ?_
  rintro y0 ⟨hL, hb0⟩
  have HL0 := hid hL; have HB0 := hid hb0; clear hL hb0
  go_upto_region 4 with (go_at_call 10; refine (C1.out _ (HG.out.later HB0.out)).mono ?_; rintro e y1 ⟨⟨ma, mc, rfl, hM⟩, hb1⟩)
  have HM1 := hid hM; have HL1 := hid (SlAt.below HL0.out hb1 (Nat.le_refl _)); have HB1 := hid (bth HB0.out hb1)
  clear hM hb1 HL0 HB0
  go_upto_region 5 with (go_at_call 10; refine (C2.out _ (HG.out.later HB1.out)).mono ?_; rintro e y2 ⟨rfl, hb2⟩)
  have HM2 := hid (SlAt.below HM1.out hb2 (Nat.le_refl _)); have HL2 := hid (SlAt.below HL1.out hb2 (Nat.le_refl _)); have HB2 := hid (bth HB1.out hb2)
  clear hb2 HM1 HL1 HB1
  go_upto_region 6 with (go_at_call 10; refine (C3.out _ (HG.out.later HB2.out)).mono ?_; rintro e y3 ⟨rfl, hb3⟩)
  have HM3 := hid (SlAt.below HM2.out hb3 (Nat.le_refl _)); have HL3 := hid (SlAt.below HL2.out hb3 (Nat.le_refl _)); have HB3 := hid (bth HB2.out hb3)
  clear hb3 HM2 HL2 HB2
  go_upto_region 7 with (go_at_call 10; refine (C4.out _ (HG.out.later HB3.out)).mono ?_; rintro e y4 ⟨rfl, hb4⟩)
  have HM4 := hid (show StpsAt y4 (.slice ma 3 mc) [w0S, w1S, w2S] from SlAt.below HM3.out hb4 (Nat.le_refl _)); have HL4 := hid (show StpsAt y4 (.slice (some ⟨w.heap.size, 0, none⟩) 3 3) [w0S, w1S, w2S] from SlAt.below HL3.out hb4 (Nat.le_refl _)); have HB4 := hid (bth HB3.out hb4)
  clear hb4 HM3 HL3 HB3 C1 C2 C3 C4
  go_upto_region 8 with (go_at_call 10; refine (C5.out _ (HG.out.later HB4.out)).mono ?_; rintro e y5 ⟨rfl, hb5⟩)
  have HM5 := hid (show StpsAt y5 (.slice ma 3 mc) [w0S, w1S, w2S] from SlAt.below HM4.out hb5 (Nat.le_refl _)); have HL5 := hid (show StpsAt y5 (.slice (some ⟨w.heap.size, 0, none⟩) 3 3) [w0S, w1S, w2S] from SlAt.below HL4.out hb5 (Nat.le_refl _)); have HB5 := hid (bth HB4.out hb5)
  clear hb5 HM4 HL4 HB4 C5
  obtain ⟨bm, om, rfl⟩ := stps_base HM5.out (by decide)
  have M0 := hid (stps_cell (i := 0) (x := w0S) HM5.out rfl)
  have M1 := hid (stps_cell (i := 1) (x := w1S) HM5.out rfl)
  have M2 := hid (stps_cell (i := 2) (x := w2S) HM5.out rfl)
  have L1 := hid (stps_cell (i := 1) (x := w1S) HL5.out rfl)
  have L2 := hid (stps_cell (i := 2) (x := w2S) HL5.out rfl)
  simp only [Nat.zero_mul, Nat.one_mul, Nat.add_zero, Nat.zero_add, show 2 * 5 = 10 from rfl] at M0 M1 M2 L1 L2
  have s0 := hid (show (Tryd.prog.info? 28).map (·.size) = some w0S.cs.size from Tryd.sizeStep)
  have s1 := hid (show (Tryd.prog.info? 28).map (·.size) = some w1S.cs.size from Tryd.sizeStep)
  have s2 := hid (show (Tryd.prog.info? 28).map (·.size) = some w2S.cs.size from Tryd.sizeStep)
  have hE2 := hE.out
  clear hE
  generalize w0S.cs = c0 at *
  generalize w1S.cs = c1 at *
  generalize w2S.cs = c2 at *
  have hgd := guardStep
  have D1 := hid (fun q : Later y5 => P1.out (lat q) (HG.out.later (bth HB5.out (lat_below q))) _ (SlAt.below HL5.out (lat_below q) (Nat.le_refl _)))
  have D2 := hid (fun q : Later y5 => S11.out (lat q) (HG.out.later (bth HB5.out (lat_below q))))
  have D3 := hid (fun q : Later y5 => S01.out (lat q) (HG.out.later (bth HB5.out (lat_below q))))
  have D4 := hid (fun q : Later y5 => Szz.out (lat q) (HG.out.later (bth HB5.out (lat_below q))))
  have D5 := hid (fun q : Later y5 => S24.out (lat q) (HG.out.later (bth HB5.out (lat_below q))))
  clear P1 S11 S01 Szz S24
  generalize (⟨#[97, 112, 112, 101, 110, 100, 32, 120, 54, 49, 10, 116, 105, 99, 107, 32, 49, 32, 48, 10, 105, 110, 106, 101, 99, 116, 32, 51, 32, 49, 32, 120, 53, 50, 10]⟩ : ByteArray) = SB at *
  refine wp_region_later (by kernel_rfl) (by kernel_rfl) ?_
  simp only [List.append_eq, List.cons_append, List.nil_append]
  repeat (first
    | go_big_quiet_skip
    | (refine wpQuiet_load_aggG rfl 28 _ rfl ⟨bm, om, none⟩ rfl c0 _ (by rintro _ ⟨q, rfl⟩; exact M0.out _ (lat_below q)) Tryd.underlying28 rfl s0.out ?_; simp only [Act.put, List.setIfInBounds_toArray, List.set_cons_succ, List.set_cons_zero])
    | (refine wpQuiet_load_aggG rfl 28 _ rfl ⟨bm, om + 5, none⟩ rfl c1 _ (by rintro _ ⟨q, rfl⟩; exact M1.out _ (lat_below q)) Tryd.underlying28 rfl s1.out ?_; simp only [Act.put, List.setIfInBounds_toArray, List.set_cons_succ, List.set_cons_zero])
    | (refine wpQuiet_load_aggG rfl 28 _ rfl ⟨bm, om + 10, none⟩ rfl c2 _ (by rintro _ ⟨q, rfl⟩; exact M2.out _ (lat_below q)) Tryd.underlying28 rfl s2.out ?_; simp only [Act.put, List.setIfInBounds_toArray, List.set_cons_succ, List.set_cons_zero])
    | (refine wpQuiet_load_aggG rfl 28 _ rfl ⟨w.heap.size, 5, none⟩ rfl c1 _ (by rintro _ ⟨q, rfl⟩; exact L1.out _ (lat_below q)) Tryd.underlying28 rfl s1.out ?_; simp only [Act.put, List.setIfInBounds_toArray, List.set_cons_succ, List.set_cons_zero])
    | (refine wpQuiet_load_aggG rfl 28 _ rfl ⟨w.heap.size, 10, none⟩ rfl c2 _ (by rintro _ ⟨q, rfl⟩; exact L2.out _ (lat_below q)) Tryd.underlying28 rfl s2.out ?_; simp only [Act.put, List.setIfInBounds_toArray, List.set_cons_succ, List.set_cons_zero])
    | go_big_quiet_step ((first | (go_at_call 12; with_reducible exact calls_later (D1.out _)) | (go_at_call 8; with_reducible exact calls_later (D2.out _)) | (go_at_call 8; with_reducible exact calls_later (D3.out _)) | (go_at_call 8; with_reducible exact calls_later (D4.out _)) | (go_at_call 8; with_reducible exact calls_later (D5.out _)))))
  refine wpQuiet_nil ?_
  rintro _ ⟨q9, rfl⟩
  have hb9 := lat_below q9
  generalize lat q9 = w9 at *
  go_wp2
  go_ret
  exact ⟨rfl, bth HB5.out hb9⟩
end Go.Proofs.YtdefipnmjfnpeaaDoor
