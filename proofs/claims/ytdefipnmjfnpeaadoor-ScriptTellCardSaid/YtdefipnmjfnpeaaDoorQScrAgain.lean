/- speculumlaw28: Great; the law ScriptAgain -/
import Derived.Test.YtdefipnmjfnpeaaDoorQScrWritten

set_option maxRecDepth 100000
namespace Go.Proofs.YtdefipnmjfnpeaaDoor
open Go.RowKit Go.Spec
theorem line_text (x : Stp) (h : x.Ok) : x.text.length ≤ (lineL x).length := by
  rw [line_ok x h]
  unfold bodyL argsL
  by_cases ht : textT x.kind.toNat = true
  · rw [if_pos ht]
    have e : tailL (List.map Lib.itoa (numsL x) ++ [hexW x.text]) = tailL (List.map Lib.itoa (numsL x)) ++ (32 :: hexW x.text) := by simp [tailL]
    rw [e]
    simp only [List.length_append, List.length_cons, hexW_len]
    omega
  · have := h.nt (by simpa using ht)
    rw [this]; simp
theorem line_in (xs : List Stp) (x : Stp) (h : x ∈ xs) : (lineL x).length ≤ (flatL xs).length := by
  induction xs with
  | nil => cases h
  | cons y l ih =>
    rw [flatL_cons, List.length_append]
    rcases List.mem_cons.1 h with rfl | h
    · omega
    · have := ih h; omega
theorem all_small (xs : List Stp) (h : ∀ x ∈ xs, x.Ok) (n : Nat) (hn : (flatL xs).length ≤ n) (hm : n ≤ 100000000) : ∀ x ∈ xs, I64 x ∧ x.text.length ≤ 100000000 := fun x hx =>
  ⟨⟨(h x hx).a, (h x hx).b, (h x hx).c⟩, by have := line_text x (h x hx); have := line_in xs x hx; omega⟩
set_option maxHeartbeats 16000000 in
theorem scriptAgain_law (l : List UInt8) (w : World) (hl : l.length ≤ 9223372036854775807) (hG : ScrG w) :
    Calls Tryd.prog 5 #[sv l] w fun e w' => e = .returned (.bool true) ∧ Below w.heap.size w w' := by
  have HG := hid hG; clear hG
  have WR := hid (fun w0 h0 => written_any w0 h0)
  by_cases h2 : 2000 < l.length
  · have d1 : decide ((2000 : Int) < (l.length : Int)) = true := decide_eq_true (by omega)
    clear h2
    go_enter Tryd.func5, Tryd.ntmps5
    go_wp2_with (go_at_call 7; refine (WR.out _ HG.out).mono ?_; rintro e w1 ⟨rfl, hb1⟩)
    go_ret
    exact ⟨rfl, hb1⟩
  · have d1 : decide ((2000 : Int) < (l.length : Int)) = false := decide_eq_false (by omega)
    have C1 := hid (get_any l w (by omega) HG.out)
    have Hl := hid (show l.length ≤ 2000 by omega)
    clear h2 hl
    go_enter Tryd.func5, Tryd.ntmps5
    go_upto_region 4 with fail
    refine C1.out.mono ?_
    rintro e w1 ⟨⟨xs, r, hR, hx⟩, hb1⟩
    have HB1 := hid hb1; clear hb1
    rcases hx with ⟨rfl, v, rfl, hv⟩ | ⟨h0, rfl⟩
    · have he : flatL xs = l := by have := hR.eq; rw [List.append_nil] at this; exact this.symm
      have hxl := flat_len xs hR.all
      have hle : (flatL xs).length ≤ 2000 := by rw [he]; exact Hl.out
      have P1 := hid (put_any v xs w1 hv (by omega) (all_small xs hR.all 2000 hle (by decide)) (by omega) (HG.out.later HB1.out))
      rw [he] at P1
      clear he hxl hle hv hR
      go_wp2_with (first
        | (go_at_call 12; refine P1.out.mono ?_; rintro e w2 ⟨rfl, hb2⟩; have HB2 := hid (bth HB1.out hb2))
        | (go_at_call 7; refine (WR.out _ (HG.out.later HB2.out)).mono ?_; rintro e w3 ⟨rfl, hb3⟩))
      go_ret
      exact ⟨rfl, bth HB2.out hb3⟩
    · obtain ⟨n, hn⟩ : ∃ n, xs.length + 1 = n := ⟨_, rfl⟩
      have hnI : (0 : Int) < (n : Int) := by omega
      have hn0 : 0 < n := by omega
      simp only [hn]
      clear hn h0 hR
      go_wp2_with (go_at_call 7; refine (WR.out _ (HG.out.later HB1.out)).mono ?_; rintro e w3 ⟨rfl, hb3⟩)
      go_ret
      exact ⟨rfl, bth HB1.out hb3⟩
set_option maxHeartbeats 4000000 in
theorem great_any (v : Value) (xs : List Stp) (w : World) (hS : StpsAt w v xs) (hn : xs.length ≤ 9223372036854775807) :
    Calls Tryd.prog 6 #[v, .int .i64 60] w fun e w' => (∃ b, e = .returned (.bool b) ∧ (b = false → xs.length ≤ 60 ∧ ∀ x ∈ xs, x.text.length ≤ 3000)) ∧ w' = w := by
  have HS := hid hS; clear hS
  obtain ⟨ea, ec, rfl, _⟩ : ∃ a c, v = .slice a xs.length c ∧ xs.length ≤ c := by
    obtain ⟨a, c, h1, h2, _⟩ := HS.out
    exact ⟨a, c, by simpa using h1, by simpa using h2⟩
  go_enter Tryd.func6, Tryd.ntmps6
  go_upto_region 2 with fail
  go_loopw [5] (fun i wr => ∃ k : Nat, k ≤ xs.length ∧ i = .int .i64 (k : Int) ∧ (∀ x ∈ xs.take k, x.text.length ≤ 3000) ∧ wr = w) (fun i _ => xs.length - (intOf i).toNat)
  case atStart => exact ⟨0, by omega, rfl, by simp, rfl⟩
  case round =>
    obtain ⟨k, hk, rfl, htk, rfl⟩ := hrel
    have Htk := hid htk; clear htk
    by_cases hlt : k < xs.length
    · have hkI : (k : Int) < (xs.length : Int) := by omega
      obtain ⟨x, hx⟩ : ∃ x, xs[k]? = some x := ⟨xs[k], List.getElem?_eq_getElem hlt⟩
      obtain ⟨b, o, rfl, hbl, _, hcell⟩ := SlAt.at HS.out (i := k) (cs := x.cs.toList) (by rw [List.getElem?_map, hx]; rfl)
      have ct : wr.cell? ⟨b, o + k * 5 + 4, none⟩ = some (sv x.text) := by
        have := hcell 4 (sv x.text) rfl
        rwa [Addr.add_lit] at this
      have Htk2 := hid (show xs.take (k + 1) = xs.take k ++ [x] by rw [List.take_add_one, hx]; rfl)
      clear hcell hx
      by_cases h3 : x.text.length ≤ 3000
      · have d1 : decide ((3000 : Int) < (x.text.length : Int)) = false := decide_eq_false (by omega)
        have H3 := hid h3; clear h3
        generalize hX : x.text = T at *
        have HX := hid hX; clear hX
        go_wp2
        go_roundw
        case rel =>
          refine ⟨k + 1, by omega, by go_num, ?_, trivial⟩
          rw [Htk2.out]
          intro y hy
          rw [List.mem_append, List.mem_singleton] at hy
          rcases hy with hy | rfl
          · exact Htk.out y hy
          · rw [HX.out]; exact H3.out
        case measure => simp [intOf]; omega
      · have d1 : decide ((3000 : Int) < (x.text.length : Int)) = true := decide_eq_true (by omega)
        clear h3
        generalize x.text = T at *
        go_wp2_with fail
        go_ret
        exact ⟨⟨true, rfl, fun h => by cases h⟩, rfl⟩
    · obtain rfl : k = xs.length := by omega
      have HA := hid (show ∀ x ∈ xs, x.text.length ≤ 3000 by have := Htk.out; rw [List.take_length] at this; exact this)
      clear hlt Htk
      by_cases h60 : xs.length ≤ 60
      · have d1 : decide ((60 : Int) < (xs.length : Int)) = false := decide_eq_false (by omega)
        have H6 := hid h60; clear h60
        go_wp2_with fail
        go_ret
        exact ⟨⟨false, rfl, fun _ => ⟨H6.out, HA.out⟩⟩, rfl⟩
      · have d1 : decide ((60 : Int) < (xs.length : Int)) = true := decide_eq_true (by omega)
        clear h60
        go_wp2_with fail
        go_ret
        exact ⟨⟨true, rfl, fun h => by cases h⟩, rfl⟩
end Go.Proofs.YtdefipnmjfnpeaaDoor
