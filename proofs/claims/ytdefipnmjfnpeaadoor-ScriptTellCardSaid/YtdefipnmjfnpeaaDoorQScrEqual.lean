/- two steps of the document, compared: a step is its own equal -/
import Derived.Test.YtdefipnmjfnpeaaDoorQScrAgain
import Derived.Test.YtdefipnmjfnpeaaDoorQScrRef9

set_option maxRecDepth 100000
namespace Go.Proofs.YtdefipnmjfnpeaaDoor
open Go.RowKit Go.Spec
theorem partStep0 (x : Stp) (w : World) : (part 3 x.cs 0).run Tryd.prog w = .ok (.int .i64 x.kind) w := by kernel_rfl
theorem partStep1 (x : Stp) (w : World) : (part 3 x.cs 1).run Tryd.prog w = .ok (.int .i64 x.a) w := by kernel_rfl
theorem partStep2 (x : Stp) (w : World) : (part 3 x.cs 2).run Tryd.prog w = .ok (.int .i64 x.b) w := by kernel_rfl
theorem partStep3 (x : Stp) (w : World) : (part 3 x.cs 3).run Tryd.prog w = .ok (.int .i64 x.c) w := by kernel_rfl
theorem partStep4 (x : Stp) (w : World) : (part 9 x.cs 4).run Tryd.prog w = .ok (sv x.text) w := by kernel_rfl
theorem stoodStep : Tryd.prog.stoodInHeld 27 = false := by kernel_rfl
theorem guardStepR : Tryd.prog.eqGuardType Tryd.prog.depth 27 = false := by kernel_rfl
theorem equalStep (x : Stp) (w : World) : (Op.equalIn 10000 27 (.agg x.cs) (.agg x.cs)).run Tryd.prog w = .ok true w := by
  rw [Op.equalIn]
  simp only [Sem.run_bind, run_underlying Tryd.underlying27, Result.andThen_ok, run_program, stoodStep, Bool.false_eq_true, if_false]
  have e1 : ∀ z : Int, (Op.equalIn 9999 3 (.int .i64 z) (.int .i64 z)).run Tryd.prog w = .ok true w := fun z => by
    have := run_equalIn_int w 9998 3 .i64 .i64 z z Tryd.underlying3
    simpa using this
  have e2 : ∀ l : List UInt8, (Op.equalIn 9999 9 (sv l) (sv l)).run Tryd.prog w = .ok true w := fun l => by
    have := run_equalIn_string w 9998 9 (mkS l) (mkS l) Tryd.underlying9
    simpa using this
  have hn1 : ("Kind" : String) ≠ "_" := by decide
  have hn2 : ("A" : String) ≠ "_" := by decide
  have hn3 : ("B" : String) ≠ "_" := by decide
  have hn4 : ("C" : String) ≠ "_" := by decide
  have hn5 : ("Text" : String) ≠ "_" := by decide
  rw [← Array.forIn_toList]
  simp only [List.forIn_cons, List.forIn_nil, hn1, hn2, hn3, hn4, hn5, ne_eq, not_false_eq_true, if_true, Sem.run_bind, partStep0, partStep1, partStep2, partStep3, partStep4, e1, e2, Result.andThen_ok, Bool.not_true, Bool.false_eq_true, if_false, Sem.run_pure]
/-- what Get tells, told once: the steps, the line, the error -/
def GetY (s : List UInt8) (ys : List Stp) (ln tt : Int) : Prop := ∃ xs r, GetR s xs r ∧ ((r = [] ∧ ys = xs ∧ ln = 0 ∧ tt = 0) ∨ (r ≠ [] ∧ ys = [] ∧ ln = ((xs.length + 1 : Nat) : Int) ∧ tt = 10))
theorem GetX.out {w : World} {s : List UInt8} {e : Ending} (h : GetX w s e) : ∃ ys ln tt a c, e = .returned (.tuple #[.slice a ys.length c, .int .i64 ln, .int .i64 tt]) ∧ StpsAt w (.slice a ys.length c) ys ∧ GetY s ys ln tt := by
  obtain ⟨xs, r, hR, ⟨hr, v, rfl, hv⟩ | ⟨hr, rfl⟩⟩ := h
  · obtain ⟨a, c, h1, h2, _⟩ := id hv
    rw [List.length_map] at h1
    subst h1
    exact ⟨xs, 0, 0, a, c, rfl, hv, xs, r, hR, .inl ⟨hr, rfl, rfl, rfl⟩⟩
  · exact ⟨[], _, 10, none, 0, rfl, SlAt.nilG w 5, xs, r, hR, .inr ⟨hr, rfl, rfl, rfl⟩⟩
theorem GetY.unique {s : List UInt8} {ys zs : List Stp} {l m t u : Int} (h : GetY s ys l t) (g : GetY s zs m u) : ys = zs ∧ l = m ∧ t = u := by
  obtain ⟨xs, r, hR, h⟩ := h
  obtain ⟨xs', r', hR', g⟩ := g
  obtain ⟨rfl, rfl⟩ := hR.unique hR'
  rcases h with ⟨hr, rfl, rfl, rfl⟩ | ⟨hr, rfl, rfl, rfl⟩ <;> rcases g with ⟨gr, rfl, rfl, rfl⟩ | ⟨gr, rfl, rfl, rfl⟩
  · exact ⟨rfl, rfl, rfl⟩
  · exact absurd hr gr
  · exact absurd gr hr
  · exact ⟨rfl, rfl, rfl⟩
theorem GetY.size {s : List UInt8} {ys : List Stp} {l t : Int} (h : GetY s ys l t) : ys.length ≤ s.length := by
  obtain ⟨xs, r, hR, ⟨hr, rfl, _⟩ | ⟨_, rfl, _⟩⟩ := h
  · have h1 := flat_len ys hR.all
    have h2 := congrArg List.length hR.eq
    rw [List.length_append] at h2; omega
  · simp
theorem GetY.end {s : List UInt8} {ys : List Stp} {l t : Int} (h : GetY s ys l t) : t = 0 ∨ (t = 10 ∧ ys = []) := by
  obtain ⟨xs, r, hR, ⟨hr, _, _, rfl⟩ | ⟨_, rfl, _, rfl⟩⟩ := h
  · exact .inl rfl
  · exact .inr ⟨rfl, rfl⟩
end Go.Proofs.YtdefipnmjfnpeaaDoor
