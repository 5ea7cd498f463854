/- speculumlaw28.written: the chapter's steps -/
import Derived.Test.YtdefipnmjfnpeaaDoorQScrGet
import Derived.Test.YtdefipnmjfnpeaaDoorQScrPut

set_option maxRecDepth 100000
namespace Go.Proofs.YtdefipnmjfnpeaaDoor
open Go.RowKit Go.Spec
theorem itoa0 : Lib.itoa 0 = [48] := by unfold Lib.itoa; rw [if_neg (by omega)]; exact Lib.decDigits_one (by decide)
theorem itoa1 : Lib.itoa 1 = [49] := by unfold Lib.itoa; rw [if_neg (by omega)]; exact Lib.decDigits_one (by decide)
theorem itoa3 : Lib.itoa 3 = [51] := by unfold Lib.itoa; rw [if_neg (by omega)]; exact Lib.decDigits_one (by decide)
def w0S : Stp := ⟨1, 0, 0, 0, [97]⟩
def w1S : Stp := ⟨3, 1, 0, 0, []⟩
def w2S : Stp := ⟨9, 3, 1, 0, [82]⟩
def wpS : Stp := ⟨2, 0, 0, 0, []⟩
theorem line0 : lineL w0S = [97, 112, 112, 101, 110, 100, 32, 120, 54, 49, 10] := rfl
theorem line1 : lineL w1S = [116, 105, 99, 107, 32, 49, 32, 48, 10] := by
  show wordT 3 ++ tailL [Lib.itoa 1, Lib.itoa 0] ++ [10] = _
  rw [itoa0, itoa1]; rfl
theorem line2 : lineL w2S = [105, 110, 106, 101, 99, 116, 32, 51, 32, 49, 32, 120, 53, 50, 10] := by
  show wordT 9 ++ tailL [Lib.itoa 3, Lib.itoa 1, hexW [82]] ++ [10] = _
  rw [itoa3, itoa1]; rfl
theorem linep : lineL wpS = [112, 117, 98, 108, 105, 115, 104, 10] := rfl
theorem ok0 : w0S.Ok := norm_ok w0S (by decide) (by decide) (by decide) (by decide)
theorem ok1 : w1S.Ok := norm_ok w1S (by decide) (by decide) (by decide) (by decide)
theorem ok2 : w2S.Ok := norm_ok w2S (by decide) (by decide) (by decide) (by decide)
theorem okp : wpS.Ok := norm_ok wpS (by decide) (by decide) (by decide) (by decide)
def s1L : List UInt8 := [97, 112, 112, 101, 110, 100, 32, 120, 54, 49, 10, 116, 105, 99, 107, 32, 49, 32, 48, 10, 105, 110, 106, 101, 99, 116, 32, 51, 32, 49, 32, 120, 53, 50, 10]
def s2L : List UInt8 := [112, 117, 98, 108, 105, 115, 104, 10, 112, 117, 98, 108, 105, 115, 104, 32]
def s3L : List UInt8 := [112, 117, 98, 108, 105, 115, 104]
def s4L : List UInt8 := [97, 112, 112, 101, 110, 100, 32, 120, 52, 65, 10]
def s5L : List UInt8 := [116, 105, 99, 107, 32, 49, 32, 48, 48, 10]
theorem flat1 : flatL [w0S, w1S, w2S] = s1L := by
  rw [flatL_cons, flatL_cons, flatL_cons, flatL_nil, line0, line1, line2]; rfl
theorem get1 : GetR s1L [w0S, w1S, w2S] [] := by
  refine ⟨fun x hx => ?_, by rw [flat1]; rfl, noLine_nil⟩
  simp at hx
  rcases hx with rfl | rfl | rfl
  · exact ok0
  · exact ok1
  · exact ok2
theorem get2 : GetR s2L [wpS] [112, 117, 98, 108, 105, 115, 104, 32] := by
  refine ⟨fun x hx => ?_, by rw [flatL_cons, flatL_nil, linep]; rfl, noLine_open (by decide)⟩
  simp at hx; subst hx; exact okp
theorem get3 : GetR s3L [] s3L := ⟨fun x hx => by simp at hx, rfl, noLine_open (by decide)⟩
theorem body_mem (x : Stp) (h : isK x.kind) : ∀ c ∈ bodyL x, isC c ∨ c = 32 := by
  intro c hc
  unfold bodyL tailL at hc
  rcases List.mem_append.1 hc with h1 | h1
  · exact .inl (word_mem _ h c h1)
  · obtain ⟨l, hl, hcl⟩ := List.mem_flatten.1 h1
    obtain ⟨w, hw, rfl⟩ := List.mem_map.1 hl
    rcases List.mem_cons.1 hcl with rfl | hcw
    · exact .inr rfl
    · exact .inl (args_mem x w hw c hcw)
theorem body_of {s : List UInt8} (h : stepB s = true) : (parseL s).Ok ∧ bodyL (parseL s) = s := by
  obtain ⟨h1, h2⟩ := stepB_true h
  rw [line_ok _ h1] at h2
  exact ⟨h1, List.append_cancel_right h2⟩
theorem bad4 : stepB [97, 112, 112, 101, 110, 100, 32, 120, 52, 65] = false := by
  cases hb : stepB [97, 112, 112, 101, 110, 100, 32, 120, 52, 65] with
  | false => rfl
  | true =>
    obtain ⟨h1, h2⟩ := body_of hb
    have := body_mem _ h1.kind 65 (by rw [h2]; decide)
    rcases this with h | h
    · unfold isC at h; simp at h
    · cases h
theorem get4 : GetR s4L [] s4L := ⟨fun x hx => by simp at hx, rfl, noLine_bad (one := [97, 112, 112, 101, 110, 100, 32, 120, 52, 65]) (z := []) (by decide) bad4⟩
theorem bad5 : stepB [116, 105, 99, 107, 32, 49, 32, 48, 48] = false := by
  cases hb : stepB [116, 105, 99, 107, 32, 49, 32, 48, 48] with
  | false => rfl
  | true =>
    obtain ⟨h1, h2⟩ := body_of hb
    have hW := wordsP_body _ h1.kind
    rw [h2] at hW
    have hJ := wordsP_join [116, 105, 99, 107] [[49], [48, 48]] (by decide) (by decide)
    have he : ([116, 105, 99, 107] : List UInt8) ++ tailL [[49], [48, 48]] = [116, 105, 99, 107, 32, 49, 32, 48, 48] := rfl
    rw [he, hW] at hJ
    injection hJ with hw ha
    have hk : (parseL [116, 105, 99, 107, 32, 49, 32, 48, 48]).kind.toNat = 3 := word_inj _ 3 (by have := h1.kind; unfold isK at this; omega) (by decide) hw
    generalize parseL [116, 105, 99, 107, 32, 49, 32, 48, 48] = y at *
    unfold argsL numsL at ha
    rw [hk] at ha
    simp [numsT, textT] at ha
    have hn := num_itoa y.b h1.b.1 h1.b.2
    rw [ha.2] at hn
    have h00 : numL [48, 48] = 0 := by decide +kernel
    rw [h00] at hn
    rw [← hn, itoa0] at ha
    cases ha.2
theorem get5 : GetR s5L [] s5L := ⟨fun x hx => by simp at hx, rfl, noLine_bad (one := [116, 105, 99, 107, 32, 49, 32, 48, 48]) (z := []) (by decide) bad5⟩
theorem get_ok (s : List UInt8) (xs : List Stp) (h : GetR s xs []) (w : World) (hs : s.length ≤ 50000000) (hG : ScrG w) :
    Calls Tryd.prog 10 #[sv s] w fun e w' => (∃ a c, e = .returned (.tuple #[.slice a xs.length c, .int .i64 0, .int .i64 0]) ∧ StpsAt w' (.slice a xs.length c) xs) ∧ Below w.heap.size w w' := by
  refine (get_any s w hs hG).mono ?_
  rintro e w' ⟨⟨ys, r, hr, hx⟩, hb⟩
  obtain ⟨rfl, rfl⟩ := h.unique hr
  rcases hx with ⟨_, v, rfl, hv⟩ | ⟨h, _⟩
  · obtain ⟨a, c, h1, _⟩ := id hv
    simp only [List.length_map] at h1
    subst h1
    exact ⟨⟨a, c, rfl, hv⟩, hb⟩
  · exact absurd rfl h
theorem get_bad (s : List UInt8) (xs : List Stp) (r : List UInt8) (h : GetR s xs r) (h0 : r ≠ []) (w : World) (hs : s.length ≤ 50000000) (hG : ScrG w) :
    Calls Tryd.prog 10 #[sv s] w fun e w' => e = .returned (.tuple #[.slice none 0 0, .int .i64 ((xs.length + 1 : Nat) : Int), .int .i64 10]) ∧ Below w.heap.size w w' := by
  refine (get_any s w hs hG).mono ?_
  rintro e w' ⟨⟨ys, z, hr, hx⟩, hb⟩
  obtain ⟨rfl, rfl⟩ := h.unique hr
  rcases hx with ⟨h, _⟩ | ⟨_, rfl⟩
  · exact absurd h h0
  · exact ⟨rfl, hb⟩
end Go.Proofs.YtdefipnmjfnpeaaDoor
