/- a text as lines, plain: how a text is parted into lines of steps, and that there is one way -/
import Derived.Test.YtdefipnmjfnpeaaDoorQScrLaw

set_option maxRecDepth 100000
namespace Go.Proofs.YtdefipnmjfnpeaaDoor
open Go.RowKit Go.Spec Go.Lib
def flatL (xs : List Stp) : List UInt8 := (xs.map lineL).flatten
theorem flatL_nil : flatL [] = [] := rfl
theorem flatL_cons (x : Stp) (xs : List Stp) : flatL (x :: xs) = lineL x ++ flatL xs := by simp [flatL]
theorem flatL_append (xs ys : List Stp) : flatL (xs ++ ys) = flatL xs ++ flatL ys := by simp [flatL]
def noLine (r : List UInt8) : Prop := ∀ x : Stp, x.Ok → ∀ z, r ≠ lineL x ++ z
structure GetR (s : List UInt8) (xs : List Stp) (r : List UInt8) : Prop where
  all : ∀ x ∈ xs, x.Ok
  eq : s = flatL xs ++ r
  no : noLine r
theorem cut10 (l1 l2 r1 r2 : List UInt8) (h1 : ∀ c ∈ l1, c ≠ 10) (h2 : ∀ c ∈ l2, c ≠ 10) (h : l1 ++ 10 :: r1 = l2 ++ 10 :: r2) : l1 = l2 ∧ r1 = r2 := by
  induction l1 generalizing l2 with
  | nil =>
    cases l2 with
    | nil => simpa using h
    | cons c l => simp only [List.nil_append, List.cons_append, List.cons.injEq] at h; exact absurd h.1.symm (h2 c (List.mem_cons_self ..))
  | cons b l ih =>
    cases l2 with
    | nil => simp only [List.nil_append, List.cons_append, List.cons.injEq] at h; exact absurd h.1 (h1 b (List.mem_cons_self ..))
    | cons c m =>
      simp only [List.cons_append, List.cons.injEq] at h
      obtain ⟨rfl, h⟩ := h
      obtain ⟨rfl, hr⟩ := ih m (fun x hx => h1 x (List.mem_cons_of_mem _ hx)) (fun x hx => h2 x (List.mem_cons_of_mem _ hx)) h
      exact ⟨rfl, hr⟩
theorem line_ok (x : Stp) (h : x.Ok) : lineL x = bodyL x ++ [10] := if_pos h.kind
theorem line_pre (x y : Stp) (r z : List UInt8) (hx : x.Ok) (hy : y.Ok) (h : lineL x ++ r = lineL y ++ z) : x = y ∧ r = z := by
  rw [line_ok x hx, line_ok y hy, List.append_assoc, List.append_assoc] at h
  obtain ⟨e, hr⟩ := cut10 _ _ _ _ (fun c hc => line_no10 x c hc hx.kind) (fun c hc => line_no10 y c hc hy.kind) h
  exact ⟨by rw [← parse_body x hx, ← parse_body y hy, e], hr⟩
theorem line_ne (x : Stp) (h : x.Ok) : lineL x ≠ [] := by rw [line_ok x h]; simp
theorem noLine_nil : noLine [] := fun x hx z h => line_ne x hx (List.append_eq_nil_iff.1 h.symm).1
theorem flat_unique (xs ys : List Stp) (r z : List UInt8) (hx : ∀ x ∈ xs, x.Ok) (hy : ∀ x ∈ ys, x.Ok) (hr : noLine r) (hz : noLine z) (h : flatL xs ++ r = flatL ys ++ z) : xs = ys ∧ r = z := by
  induction xs generalizing ys with
  | nil =>
    cases ys with
    | nil => exact ⟨rfl, by simpa [flatL] using h⟩
    | cons y l => rw [flatL_nil, flatL_cons, List.nil_append, List.append_assoc] at h; exact absurd h (hr y (hy y (List.mem_cons_self ..)) _)
  | cons x l ih =>
    cases ys with
    | nil => rw [flatL_nil, flatL_cons, List.nil_append, List.append_assoc] at h; exact absurd h.symm (hz x (hx x (List.mem_cons_self ..)) _)
    | cons y m =>
      rw [flatL_cons, flatL_cons, List.append_assoc, List.append_assoc] at h
      obtain ⟨e1, h2⟩ := line_pre x y _ _ (hx x (List.mem_cons_self ..)) (hy y (List.mem_cons_self ..)) h
      obtain ⟨e2, h3⟩ := ih m (fun a ha => hx a (List.mem_cons_of_mem _ ha)) (fun a ha => hy a (List.mem_cons_of_mem _ ha)) h2
      exact ⟨by rw [e1, e2], h3⟩
theorem GetR.unique {s : List UInt8} {xs ys : List Stp} {r z : List UInt8} (h : GetR s xs r) (g : GetR s ys z) : xs = ys ∧ r = z :=
  flat_unique xs ys r z h.all g.all h.no g.no (h.eq.symm.trans g.eq)
/-- a step's line is nothing but where the step is one -/
theorem line_none (x : Stp) (h : ¬ isK x.kind) : lineL x = [] := if_neg h
/-- steps whose kinds are none are left out -/
def okS (xs : List Stp) : List Stp := (xs.filter fun x => decide (isK x.kind)).map normL
def I64 (x : Stp) : Prop := (-9223372036854775808 ≤ x.a ∧ x.a ≤ 9223372036854775807) ∧ (-9223372036854775808 ≤ x.b ∧ x.b ≤ 9223372036854775807) ∧ (-9223372036854775808 ≤ x.c ∧ x.c ≤ 9223372036854775807)
theorem flat_okS (xs : List Stp) : flatL (okS xs) = flatL xs := by
  induction xs with
  | nil => rfl
  | cons x l ih =>
    unfold okS at *
    by_cases h : isK x.kind
    · rw [List.filter_cons_of_pos (by simpa using h), List.map_cons, flatL_cons, flatL_cons, ih, line_norm]
    · rw [List.filter_cons_of_neg (by simpa using h), ih, flatL_cons, line_none x h, List.nil_append]
theorem okS_all (xs : List Stp) (h : ∀ x ∈ xs, I64 x) : ∀ x ∈ okS xs, x.Ok := by
  intro x hx
  unfold okS at hx
  obtain ⟨y, hy, rfl⟩ := List.mem_map.1 hx
  obtain ⟨hm, hk⟩ := List.mem_filter.1 hy
  obtain ⟨h1, h2, h3⟩ := h y hm
  exact norm_ok y (by simpa using hk) h1 h2 h3
theorem getR_flat (xs : List Stp) (h : ∀ x ∈ xs, x.Ok) : GetR (flatL xs) xs [] := ⟨h, by simp, noLine_nil⟩
theorem getR_put (xs : List Stp) (h : ∀ x ∈ xs, I64 x) : GetR (flatL xs) (okS xs) [] := ⟨okS_all xs h, by rw [flat_okS]; simp, noLine_nil⟩
/-- is a text, without its end, a step's line? -/
def stepB (s : List UInt8) : Bool := decide (isK (parseL s).kind) && (lineL (parseL s) == s ++ [10])
theorem numL_range (w : List UInt8) : -9223372036854775808 ≤ numL w ∧ numL w ≤ 9223372036854775807 := by
  have := numS_range w
  unfold numL
  split
  · omega
  · unfold wrap64; omega
theorem parse_ok (s : List UInt8) (h : isK (parseL s).kind) : (parseL s).Ok := by
  have hk : (parseL s).kind = ((kindL (at4 (splitL s) 0) : Nat) : Int) := rfl
  refine ⟨h, ?_, ?_, ?_, ?_, ?_, ?_, ?_⟩
  · show _ ≤ (if _ then numL _ else 0) ∧ (if _ then numL _ else 0) ≤ _
    have := numL_range (at4 (splitL s) 1); split <;> omega
  · show _ ≤ (if _ then numL _ else 0) ∧ (if _ then numL _ else 0) ≤ _
    have := numL_range (at4 (splitL s) 2); split <;> omega
  · show _ ≤ (if _ then numL _ else 0) ∧ (if _ then numL _ else 0) ≤ _
    have := numL_range (at4 (splitL s) 3); split <;> omega
  · intro g; rw [hk, Int.toNat_natCast] at g; exact if_neg g
  · intro g; rw [hk, Int.toNat_natCast] at g; exact if_neg g
  · intro g; rw [hk, Int.toNat_natCast] at g; exact if_neg g
  · intro g; rw [hk, Int.toNat_natCast] at g
    show (if textT _ = true then _ else []) = []
    rw [if_neg (by rw [g]; simp)]
theorem stepB_true {s : List UInt8} (h : stepB s = true) : (parseL s).Ok ∧ lineL (parseL s) = s ++ [10] := by
  unfold stepB at h
  rw [Bool.and_eq_true, decide_eq_true_eq, beq_iff_eq] at h
  exact ⟨parse_ok s h.1, h.2⟩
theorem stepB_false {s : List UInt8} (h : stepB s = false) (x : Stp) (hx : x.Ok) : lineL x ≠ s ++ [10] := by
  intro g
  have e := parse_line x hx s g
  unfold stepB at h
  rw [e, g] at h
  simp [hx.kind] at h
theorem stepB_of {s : List UInt8} (x : Stp) (hx : x.Ok) (h : lineL x = s ++ [10]) : stepB s = true := by
  cases hb : stepB s with
  | true => rfl
  | false => exact absurd h (stepB_false hb x hx)
/-- a first line that is none -/
theorem noLine_bad {one z : List UInt8} (h10 : ∀ c ∈ one, c ≠ 10) (h : stepB one = false) : noLine (one ++ 10 :: z) := by
  intro x hx z' e
  rw [line_ok x hx, List.append_assoc] at e
  obtain ⟨e1, _⟩ := cut10 _ _ _ _ h10 (fun c hc => line_no10 x c hc hx.kind) e
  exact stepB_false h x hx (by rw [line_ok x hx, ← e1])
theorem noLine_open {one : List UInt8} (h10 : ∀ c ∈ one, c ≠ 10) : noLine one := by
  intro x hx z e
  rw [line_ok x hx] at e
  exact h10 10 (by rw [e]; simp) rfl
end Go.Proofs.YtdefipnmjfnpeaaDoor
