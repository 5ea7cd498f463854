/- Regions in the order of their text, by the quiet walk: calls that make memory, whole arrays loaded, guards decided; then a tail. -/
import Derived.Test.YtbpjlancjdbehaaDoorQZero

set_option maxRecDepth 100000
namespace Go.Spec
open Go.RowKit
variable {P : Program} {ops : Array Oper} {C : World → Prop}
theorem wpList_of_quiet {Q' : Exit → Act → World → Prop} {rest : List Oper} : ∀ (l : List Oper) (a : Act) (w : World), C w →
    wpQuiet P ops C (fun a' => ∀ w', C w' → wpList P ops Q' rest a' w') l a → wpList P ops Q' (l ++ rest) a w
  | [], a, w, hw, h => h w hw
  | o :: l, a, w, hw, h => by
    unfold wpQuiet at h
    show wpList P ops Q' (o :: (l ++ rest)) a w
    unfold wpList
    by_cases hwant : Region.wanted o (yielded ops a.tmps) = true
    · rw [if_pos hwant] at h ⊢
      exact .inl (Oper.wp_of_quiet hw (fun a' w' hw' hK => wpList_of_quiet l a' w' hw' hK) h)
    · rw [if_neg hwant] at h ⊢
      exact wpList_of_quiet l _ w hw h
theorem wp_region_seq_later {id : Nat} {Q : Exit → Act → World → Prop} {a : Act} {w : World} {l : List Oper}
    (h : wpQuiet P l.toArray (fun w' => ∃ x : Later w, w' = lat x) (fun a' => ∀ w', (∃ x : Later w, w' = lat x) → Q .normal a' w') l a) : (Code.region id l.toArray false).wp P Q a w := by
  refine wp_region_lit ?_
  have := wpList_of_quiet (P := P) (ops := l.toArray) (C := fun w' => ∃ x : Later w, w' = lat x) (Q' := Q) (rest := []) l a w ⟨⟨w, Below.refl _ _⟩, rfl⟩ h
  rwa [List.append_nil] at this
theorem wp_region_seq_later_tail {id : Nat} {Q : Exit → Act → World → Prop} {a : Act} {w : World} {l : List Oper} (n : Nat)
    (h : wpQuiet P l.toArray (fun w' => ∃ x : Later w, w' = lat x) (fun a' => ∀ w', (∃ x : Later w, w' = lat x) → wpList P l.toArray Q (l.drop n) a' w') (l.take n) a) : (Code.region id l.toArray false).wp P Q a w := by
  refine wp_region_lit ?_
  have := wpList_of_quiet (P := P) (ops := l.toArray) (C := fun w' => ∃ x : Later w, w' = lat x) (Q' := Q) (rest := l.drop n) (l.take n) a w ⟨⟨w, Below.refl _ _⟩, rfl⟩ h
  rwa [List.take_append_drop] at this
end Go.Spec
