/- the law ScriptBack -/
import Derived.Test.YtdefipnmjfnpeaaDoorQScrAgain

set_option maxRecDepth 100000
namespace Go.Proofs.YtdefipnmjfnpeaaDoor
open Go.RowKit Go.Spec
theorem okS_take (xs : List Stp) (k : Nat) (x : Stp) (hx : xs[k]? = some x) : okS (xs.take (k + 1)) = okS (xs.take k) ++ (if isK x.kind then [normL x] else []) := by
  rw [List.take_add_one, hx]
  unfold okS
  rw [List.filter_append, List.map_append]
  congr 1
  by_cases h : isK x.kind
  · simp [h]
  · simp [h]
theorem okS_pre (xs : List Stp) (k : Nat) : okS xs = okS (xs.take k) ++ okS (xs.drop k) := by
  unfold okS
  rw [← List.map_append, ← List.filter_append, List.take_append_drop]
/-- the next of what was read is the next step that is one -/
theorem okS_get (xs : List Stp) (k : Nat) (x : Stp) (hx : xs[k]? = some x) (h : isK x.kind) : (okS xs)[(okS (xs.take k)).length]? = some (normL x) := by
  have h1 := okS_pre xs (k + 1)
  rw [okS_take xs k x hx, if_pos h, List.append_assoc] at h1
  rw [h1, List.getElem?_append_right (Nat.le_refl _), Nat.sub_self]
  rfl
theorem put_len (xs : List Stp) (h : ∀ x ∈ xs, I64 x ∧ x.text.length ≤ 3000) (hl : xs.length ≤ 60) : (flatL xs).length ≤ 60 * 30000 := by
  have key : ∀ x : Stp, I64 x → x.text.length ≤ 3000 → (lineL x).length ≤ 30000 := fun x hi ht => by
    unfold lineL
    split
    · unfold bodyL
      have h1 := word_len x.kind.toNat
      have h2 := tail_len (argsL x) 6001 (fun w hw => by
        unfold argsL at hw
        rcases List.mem_append.1 hw with h | h
        · obtain ⟨n, hn, rfl⟩ := List.mem_map.1 h
          have hm := List.mem_of_mem_take hn
          obtain ⟨i1, i2, i3⟩ := hi
          have : (Lib.itoa n).length ≤ 21 := by
            simp at hm
            rcases hm with rfl | rfl | rfl
            · exact Lib.itoa_length_le _ i1.1 i1.2
            · exact Lib.itoa_length_le _ i2.1 i2.2
            · exact Lib.itoa_length_le _ i3.1 i3.2
          omega
        · split at h
          · rw [List.mem_singleton] at h; subst h; rw [hexW_len]; omega
          · cases h)
      have h3 := args_len x
      have h4 := nums_le x.kind.toNat
      have h5 : (argsL x).length ≤ 4 := by rw [h3]; split <;> omega
      have h6 : (argsL x).length * (6001 + 1) ≤ 4 * (6001 + 1) := Nat.mul_le_mul_right _ h5
      rw [List.length_append, List.length_append, List.length_singleton]
      omega
    · simp
  have all : ∀ ys : List Stp, (∀ y ∈ ys, y ∈ xs) → (flatL ys).length ≤ ys.length * 30000 := fun ys => by
    induction ys with
    | nil => intro _; simp [flatL]
    | cons y r ih =>
      intro hy
      have h1 := ih fun z hz => hy z (List.mem_cons_of_mem _ hz)
      have h2 := h y (hy y (List.mem_cons_self ..))
      have h3 := key y h2.1 h2.2
      rw [flatL_cons, List.length_append, List.length_cons, Nat.succ_mul]; omega
  have h1 := all xs fun _ h => h
  have h2 : xs.length * 30000 ≤ 60 * 30000 := Nat.mul_le_mul_right _ hl
  omega
theorem norm_small (x : Stp) (h : I64 x) (ht : x.text.length ≤ 3000) : I64 (normL x) ∧ (normL x).text.length ≤ 3000 := by
  obtain ⟨⟨a1, a2⟩, ⟨b1, b2⟩, ⟨c1, c2⟩⟩ := h
  refine ⟨⟨?_, ?_, ?_⟩, ?_⟩
  · show _ ≤ (if _ then x.a else 0) ∧ (if _ then x.a else 0) ≤ _; split <;> omega
  · show _ ≤ (if _ then x.b else 0) ∧ (if _ then x.b else 0) ≤ _; split <;> omega
  · show _ ≤ (if _ then x.c else 0) ∧ (if _ then x.c else 0) ≤ _; split <;> omega
  · show (if _ then x.text else []).length ≤ _; split
    · exact ht
    · simp
theorem same_norm (x : Stp) (h : isK x.kind) : (!(lineL (normL x) == []) && lineL (normL x) == lineL x) = true := by
  rw [line_norm]
  have : lineL x ≠ [] := by unfold lineL; rw [if_pos h]; simp
  have h2 : (lineL x == []) = false := by simpa using this
  rw [h2]; simp
set_option maxHeartbeats 16000000 in
theorem scriptBack_law (v : Value) (xs : List Stp) (w : World) (hS : StpsAt w v xs) (hn : xs.length ≤ 9223372036854775807) (hi : ∀ x ∈ xs, I64 x) (hG : ScrG w) :
    Calls Tryd.prog 4 #[v] w fun e w' => e = .returned (.bool true) ∧ Below w.heap.size w w' := by
  have HG := hid hG; have HS := hid hS; have HI := hid hi
  obtain ⟨ea, ec, rfl, _⟩ : ∃ a c, v = .slice a xs.length c ∧ xs.length ≤ c := by
    obtain ⟨a, c, h1, h2, _⟩ := HS.out
    exact ⟨a, c, by simpa using h1, by simpa using h2⟩
  have GR := hid (great_any _ xs w hS hn)
  have WR := hid (fun w0 h0 => written_any w0 h0)
  clear hG hS hi
  go_enter Tryd.func4, Tryd.ntmps4
  go_wp2_with fail
  refine GR.out.mono ?_
  rintro e w1 ⟨⟨b, rfl, hb⟩, h1⟩
  obtain rfl := h1.symm
  have HBd := hid hb
  clear h1 hb GR
  cases b with
  | true =>
    clear hn
    go_wp2_with (go_at_call 7; refine (WR.out _ HG.out).mono ?_; rintro e w2 ⟨rfl, hb2⟩)
    go_ret
    exact ⟨rfl, hb2⟩
  | false =>
    obtain ⟨h60, h3000⟩ := HBd.out rfl
    have HX := hid (show ∀ x ∈ xs, I64 x ∧ x.text.length ≤ 3000 from fun x hx => ⟨HI.out x hx, h3000 x hx⟩)
    have hpl := put_len xs HX.out h60
    have P1 := hid (put_any _ xs w HS.out (by omega) (fun x hx => ⟨(HX.out x hx).1, by have := (HX.out x hx).2; omega⟩) (by omega) HG.out)
    have GR := hid (fun w0 h0 => get_ok (flatL xs) (okS xs) (getR_put xs HI.out) w0 (by omega) h0)
    have hol : (okS xs).length ≤ xs.length := by unfold okS; rw [List.length_map]; exact List.length_filter_le _ _
    have P2 := hid (fun u w0 hu h0 => put_any u (okS xs) w0 hu (by omega) (fun x hx => by
      unfold okS at hx
      obtain ⟨y, hy, rfl⟩ := List.mem_map.1 hx
      have hm := (List.mem_filter.1 hy).1
      have := norm_small y (HX.out y hm).1 (HX.out y hm).2
      exact ⟨this.1, by omega⟩) (by rw [flat_okS]; omega) h0)
    rw [flat_okS] at P2
    obtain ⟨F, hF⟩ : ∃ F, flatL xs = F := ⟨_, rfl⟩
    rw [hF] at P1 P2 GR
    obtain ⟨M, hM⟩ : ∃ M, (okS xs).length = M := ⟨_, rfl⟩
    rw [hM] at GR hol
    have HM := hid hM
    have h60' : xs.length ≤ 60 := h60
    clear hF hM hpl hn h3000 HBd h60
    go_upto_region 4 with (go_at_call 12; refine P1.out.mono ?_; rintro e w2 ⟨rfl, hb2⟩)
    go_upto_region 5 with (go_at_call 10; refine (GR.out _ (HG.out.later hb2)).mono ?_; rintro e w3 ⟨⟨ma, mc, rfl, hm3⟩, hb3⟩)
    have HB3 := hid (bth hb2 hb3); have HM3 := hid hm3
    clear hb2 hb3 hm3 P1 GR
    go_upto_region 7 with (go_at_call 12; refine (P2.out _ _ HM3.out (HG.out.later HB3.out)).mono ?_; rintro e w4 ⟨rfl, hb4⟩)
    have HB4 := hid (bth HB3.out hb4); have HM4 := hid (show StpsAt w4 (.slice ma M mc) (okS xs) from SlAt.below HM3.out hb4 (Nat.le_refl _))
    clear hb4 HB3 HM3 P2
    go_upto_region 9 with fail
    go_loopw [7, 8] (fun mm i wr => ∃ k : Nat, k ≤ xs.length ∧ mm = .int .i64 ((okS (xs.take k)).length : Int) ∧ i = .int .i64 (k : Int) ∧ Below w4.heap.size w4 wr) (fun _ i _ => xs.length - (intOf i).toNat)
    case atStart => exact ⟨0, by omega, rfl, rfl, Below.refl _ _⟩
    case round =>
      obtain ⟨k, hk, rfl, rfl, hbr⟩ := hrel
      have HB := hid hbr; have HBw := hid (bth HB4.out hbr); clear hbr
      by_cases hlt : k < xs.length
      · have hkI : (k : Int) < (xs.length : Int) := by omega
        obtain ⟨x, hx⟩ : ∃ x, xs[k]? = some x := ⟨xs[k], List.getElem?_eq_getElem hlt⟩
        obtain ⟨b, o, rfl⟩ := stps_base HS.out (by omega)
        have LC := hid (stps_cell HS.out hx)
        have ck : wr.cell? ⟨b, o + k * 5, none⟩ = some (.int .i64 x.kind) := by
          have := LC.out wr HBw.out 0 (.int .i64 x.kind) rfl
          rwa [Addr.add_lit, Nat.add_zero] at this
        have Htk := hid (okS_take xs k x hx)
        by_cases hK : isK x.kind
        · have HKx := hid hK
          have hg := okS_get xs k x hx hK
          have hJM : (okS (xs.take k)).length < M := by rw [← HM.out]; exact (List.getElem?_eq_some_iff.1 hg).1
          have Hg := hid hg; clear hg
          have S1 := hid (fun w9 h9 => same_any (normL x) x w9 ⟨(norm_small x (HX.out x (List.mem_of_getElem? hx)).1 (HX.out x (List.mem_of_getElem? hx)).2).1, by have := (norm_small x (HX.out x (List.mem_of_getElem? hx)).1 (HX.out x (List.mem_of_getElem? hx)).2).2; omega⟩ ⟨(HX.out x (List.mem_of_getElem? hx)).1, by have := (HX.out x (List.mem_of_getElem? hx)).2; omega⟩ h9)
          rw [same_norm x hK] at S1
          unfold Stp.v at S1
          rw [if_pos hK] at Htk
          have Hlen2 := hid (show (okS (xs.take (k + 1))).length = (okS (xs.take k)).length + 1 by rw [Htk.out, List.length_append]; rfl)
          obtain ⟨bm, om, rfl⟩ := stps_base HM4.out (by rw [HM.out]; omega)
          have MC := hid (stps_cell HM4.out Hg.out)
          obtain ⟨J, hJ⟩ : ∃ J, (okS (xs.take k)).length = J := ⟨_, rfl⟩
          rw [hJ] at MC hJM Hlen2
          simp only [hJ]
          have hJI : (J : Int) < (M : Int) := by omega
          have hJ60 : J ≤ 60 := by omega
          have dJ1 : decide ((M : Int) ≤ (J : Int)) = false := decide_eq_false (by omega)
          have dJ2 : decide (M ≤ J) = false := decide_eq_false (by omega)
          unfold isK at hK
          obtain ⟨hK1, hK2⟩ := hK
          have d1 : decide (x.kind < 1) = false := decide_eq_false (by omega)
          have d2 : decide (13 < x.kind) = false := decide_eq_false (by omega)
          clear hK1 hK2 hJ hx Htk Hg
          generalize x.kind = kd at *
          go_upto_region 12 with fail
          clear ck d1 d2
          have Hsn := hid (show (Tryd.prog.info? 28).map (·.size) = some (normL x).cs.size from Tryd.sizeStep)
          have Hsx := hid (show (Tryd.prog.info? 28).map (·.size) = some x.cs.size from Tryd.sizeStep)
          generalize (normL x).cs = cn at *
          generalize x.cs = cx at *
          have D1 := hid (fun q : Later wr => S1.out (lat q) (HG.out.later (bth HBw.out (lat_below q))))
          clear S1
          refine wp_region_later (by kernel_rfl) (by kernel_rfl) ?_
          repeat (first
            | go_big_quiet_skip
            | (refine wpQuiet_load_aggG rfl 28 _ rfl ⟨bm, om + J * 5, none⟩ rfl cn _ (by rintro _ ⟨q, rfl⟩; exact MC.out _ (bth HB.out (lat_below q))) Tryd.underlying28 rfl Hsn.out ?_; simp only [Act.put, List.setIfInBounds_toArray, List.set_cons_succ, List.set_cons_zero])
            | (refine wpQuiet_load_aggG rfl 28 _ rfl ⟨b, o + k * 5, none⟩ rfl cx _ (by rintro _ ⟨q, rfl⟩; exact LC.out _ (bth HBw.out (lat_below q))) Tryd.underlying28 rfl Hsx.out ?_; simp only [Act.put, List.setIfInBounds_toArray, List.set_cons_succ, List.set_cons_zero])
            | go_big_quiet_step ((first | (go_at_call 8; with_reducible exact calls_later (D1.out _)))))
          refine wpQuiet_nil ?_
          rintro _ ⟨q6, rfl⟩
          have hb6 := lat_below q6
          generalize lat q6 = w6 at *
          go_wp2
          go_roundw
          case rel => exact ⟨k + 1, by omega, by rw [Hlen2.out]; go_num, by go_num, bth HB.out hb6⟩
          case measure => simp [intOf]; omega
        · rw [if_neg hK, List.append_nil] at Htk
          have Hlen2 := hid (show (okS (xs.take (k + 1))).length = (okS (xs.take k)).length by rw [Htk.out])
          unfold isK at hK
          clear hx Htk
          generalize x.kind = kd at *
          generalize (okS (xs.take k)).length = J at *
          by_cases h1 : kd < 1
          · have d1 : decide (kd < 1) = true := decide_eq_true h1
            clear hK h1
            go_wp2
            go_roundw
            case rel => exact ⟨k + 1, by omega, by rw [Hlen2.out], by go_num, HB.out⟩
            case measure => simp [intOf]; omega
          · have d1 : decide (kd < 1) = false := decide_eq_false h1
            have d2 : decide (13 < kd) = true := decide_eq_true (by omega)
            clear hK h1
            go_wp2
            go_roundw
            case rel => exact ⟨k + 1, by omega, by rw [Hlen2.out], by go_num, HB.out⟩
            case measure => simp [intOf]; omega
      · obtain rfl : k = xs.length := by omega
        rw [List.take_length, HM.out]
        clear hlt
        go_wp2_with (go_at_call 7; refine (WR.out _ (HG.out.later HBw.out)).mono ?_; rintro e w9 ⟨rfl, hb9⟩)
        go_ret
        exact ⟨rfl, bth HBw.out hb9⟩
end Go.Proofs.YtdefipnmjfnpeaaDoor
