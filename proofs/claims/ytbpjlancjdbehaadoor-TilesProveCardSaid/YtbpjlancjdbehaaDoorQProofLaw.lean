/- proofs, plain: what a proof of a beginning comes to, climbed from its first hash -/
import Derived.Test.YtbpjlancjdbehaaDoorQTreeLaw

set_option maxRecDepth 100000
namespace Go.Proofs.YtbpjlancjdbehaaDoor
open Go.Spec
def climb2 : List Bool → List (List UInt8) → List UInt8 → List UInt8 → List UInt8 × List UInt8
  | d :: ds, h :: p, a, b => if d then climb2 ds p (nodeL h a) (nodeL h b) else climb2 ds p a (nodeL b h)
  | _, _, a, b => (a, b)
theorem climb2_snoc (d : Bool) (h : List UInt8) : ∀ (ds : List Bool) (p : List (List UInt8)) (a b : List UInt8), p.length = ds.length →
    climb2 (ds ++ [d]) (p ++ [h]) a b = if d then (nodeL h (climb2 ds p a b).1, nodeL h (climb2 ds p a b).2) else ((climb2 ds p a b).1, nodeL (climb2 ds p a b).2 h)
  | [], [], a, b, _ => by cases d <;> rfl
  | e :: ds, y :: p, a, b, hl => by
    have ih := fun a b => climb2_snoc d h ds p a b (by simpa using hl)
    simp only [List.cons_append, climb2]
    cases e
    · simp only [Bool.false_eq_true, if_false]; exact ih _ _
    · simp only [if_true]; exact ih _ _
  | [], _ :: _, _, _, hl => by simp at hl
  | _ :: _, [], _, _, hl => by simp at hl
/-- while the first number is odd, both are halved -/
def stripF : Nat → Nat → Nat → Nat × Nat
  | 0, i, m => (i, m)
  | f + 1, i, m => if i % 2 = 1 then stripF f (i / 2) (m / 2) else (i, m)
def stripN (i m : Nat) : Nat × Nat := stripF i i m
theorem stripF_eq : ∀ (f g i m : Nat), i ≤ f → i ≤ g → stripF f i m = stripF g i m
  | 0, 0, _, _, _, _ => rfl
  | 0, g + 1, i, m, h, _ => by rw [stripF, stripF, if_neg (by omega)]
  | f + 1, 0, i, m, _, h => by rw [stripF, stripF, if_neg (by omega)]
  | f + 1, g + 1, i, m, hf, hg => by
    rw [stripF, stripF]
    by_cases h : i % 2 = 1
    · rw [if_pos h, if_pos h, stripF_eq f g (i / 2) (m / 2) (by omega) (by omega)]
    · rw [if_neg h, if_neg h]
theorem strip_odd (i m : Nat) (h : i % 2 = 1) : stripN i m = stripN (i / 2) (m / 2) := by
  unfold stripN
  obtain ⟨f, rfl⟩ : ∃ f, i = f + 1 := ⟨i - 1, by omega⟩
  conv => lhs; rw [stripF, if_pos h]
  exact stripF_eq f _ _ _ (by omega) (Nat.le_refl _)
theorem strip_even (i m : Nat) (h : i % 2 = 0) : stripN i m = (i, m) := by
  unfold stripN
  cases i with
  | zero => rfl
  | succ f => rw [stripF, if_neg (by omega)]
theorem strip_le : ∀ (n i m : Nat), i ≤ n → i ≤ m → (stripN i m).1 ≤ i ∧ (stripN i m).2 ≤ m ∧ (stripN i m).1 ≤ (stripN i m).2 ∧ (i < m → (stripN i m).1 < (stripN i m).2)
  | 0, i, m, h, hm => by
    rw [strip_even i m (by omega)]; exact ⟨Nat.le_refl _, Nat.le_refl _, hm, id⟩
  | n + 1, i, m, h, hm => by
    by_cases ho : i % 2 = 1
    · rw [strip_odd i m ho]
      obtain ⟨a, b, c, d⟩ := strip_le n (i / 2) (m / 2) (by omega) (by omega)
      exact ⟨by omega, by omega, c, fun h => d (by omega)⟩
    · rw [strip_even i m (by omega)]; exact ⟨Nat.le_refl _, Nat.le_refl _, hm, id⟩
/-- on which sides the hashes of a proof stand -/
def conD (m n : Nat) : List Bool := dirD (stripN (m - 1) (n - 1)).1 (stripN (m - 1) (n - 1)).2
def conI (m n : Nat) : Nat := (stripN (m - 1) (n - 1)).1
theorem con_low : ∀ (J i m : Nat), i < 2 ^ J → 2 ^ J ≤ m → m < 2 ^ (J + 1) → dirD (stripN i m).1 (stripN i m).2 = dirD (stripN i (2 ^ J - 1)).1 (stripN i (2 ^ J - 1)).2 ++ [false] ∧ (stripN i m).1 = (stripN i (2 ^ J - 1)).1
  | 0, i, m, h1, h2, h3 => by
    have : i = 0 := by simpa using h1
    subst i
    rw [strip_even 0 m rfl, strip_even 0 _ rfl]
    exact ⟨dir_low 0 0 m h1 h2 h3, rfl⟩
  | J + 1, i, m, h1, h2, h3 => by
    by_cases ho : i % 2 = 1
    · have e : (2 ^ (J + 1) - 1) / 2 = 2 ^ J - 1 := by rw [Nat.pow_succ]; omega
      rw [strip_odd i m ho, strip_odd i _ ho, e]
      rw [Nat.pow_succ] at h1 h2
      rw [Nat.pow_succ] at h3
      exact con_low J (i / 2) (m / 2) (by omega) (by omega) (by omega)
    · rw [strip_even i m (by omega), strip_even i _ (by omega)]
      exact ⟨dir_low (J + 1) i m h1 h2 h3, rfl⟩
theorem con_high : ∀ (J i m : Nat), i < m → m < 2 ^ J → dirD (stripN (2 ^ J + i) (2 ^ J + m)).1 (stripN (2 ^ J + i) (2 ^ J + m)).2 = dirD (stripN i m).1 (stripN i m).2 ++ [true] ∧ (stripN (2 ^ J + i) (2 ^ J + m)).1 ≠ 0
  | 0, i, m, h1, h2 => by simp at h2; omega
  | J + 1, i, m, h1, h2 => by
    have hp : 0 < 2 ^ J := Nat.pow_pos (by omega)
    by_cases ho : i % 2 = 1
    · rw [Nat.pow_succ] at h2 ⊢
      rw [strip_odd (2 ^ J * 2 + i) _ (by omega), strip_odd i m ho]
      have e1 : (2 ^ J * 2 + i) / 2 = 2 ^ J + i / 2 := by omega
      have e2 : (2 ^ J * 2 + m) / 2 = 2 ^ J + m / 2 := by omega
      rw [e1, e2]
      exact con_high J (i / 2) (m / 2) (by omega) (by omega)
    · have hd := dir_high (J + 1) i m (by omega) h2
      rw [Nat.pow_succ] at hd ⊢
      rw [strip_even (2 ^ J * 2 + i) _ (by omega), strip_even i m (by omega)]
      refine ⟨hd, ?_⟩
      show 2 ^ J * 2 + i ≠ 0
      omega
theorem strip_pow : ∀ (J : Nat), stripN (2 ^ J - 1) (2 ^ J - 1) = (0, 0)
  | 0 => rfl
  | J + 1 => by
    have hp : 0 < 2 ^ J := Nat.pow_pos (by omega)
    have e : (2 ^ (J + 1) - 1) / 2 = 2 ^ J - 1 := by rw [Nat.pow_succ]; omega
    rw [strip_odd _ _ (by rw [Nat.pow_succ]; omega), e]
    exact strip_pow J
theorem con_all : ∀ (n : Nat) (l : List (List UInt8)) (m : Nat), l.length ≤ n → 1 ≤ m → m ≤ l.length → (m = l.length → ∃ J, m = 2 ^ J) →
    ∃ h rest, subL l m false = h :: rest ∧ subL l m true = (if conI m l.length = 0 then rest else h :: rest) ∧ rest.length = (conD m l.length).length ∧ climb2 (conD m l.length) rest h h = (rootL (l.take m), rootL l) ∧ (conI m l.length = 0 → h = rootL (l.take m))
  | 0, l, m, h, h1, h2, _ => by omega
  | n + 1, l, m, h, h1, h2, hp => by
    by_cases h0 : m = l.length
    · obtain ⟨J, hJ⟩ := hp h0
      refine ⟨rootL l, [], ?_, ?_, ?_, ?_, ?_⟩
      · rw [h0, sub_all l false (by omega)]; rfl
      · have : conI m l.length = 0 := by unfold conI; rw [← h0, hJ, strip_pow]
        rw [if_pos this, h0, sub_all l true (by omega)]; rfl
      · unfold conD; rw [← h0, hJ, strip_pow]; rfl
      · unfold conD; rw [← h0, hJ, strip_pow]
        rw [← hJ, h0, List.take_length]; rfl
      · intro _; rw [h0, List.take_length]
    · obtain ⟨s1, s2⟩ := splitN_in l.length (by omega)
      obtain ⟨J, e, a, b⟩ := split_pow l.length (by omega)
      by_cases hk : m ≤ splitN l.length
      · have hlen : (l.take (splitN l.length)).length = splitN l.length := by rw [List.length_take]; omega
        obtain ⟨x, rest, r1, r2, r3, r4, r5⟩ := con_all n (l.take (splitN l.length)) m (by omega) h1 (by omega) (fun hm => ⟨J, by rw [hm, hlen, e]⟩)
        rw [hlen] at r2 r3 r4 r5
        have hcl := con_low J (m - 1) (l.length - 1) (by omega) (by omega) (by rw [Nat.pow_succ]; omega)
        have hD : conD m l.length = conD m (splitN l.length) ++ [false] := by unfold conD; rw [e]; exact hcl.1
        have hI : conI m l.length = conI m (splitN l.length) := by unfold conI; rw [e]; exact hcl.2
        have hT : (l.take (splitN l.length)).take m = l.take m := by rw [List.take_take, Nat.min_eq_left hk]
        rw [hT] at r4 r5
        refine ⟨x, rest ++ [rootL (l.drop (splitN l.length))], ?_, ?_, ?_, ?_, ?_⟩
        · rw [sub_many l m false h1 (by omega), if_pos hk, r1]; rfl
        · rw [sub_many l m true h1 (by omega), if_pos hk, r2, hI]
          split <;> rfl
        · rw [hD]; simp [r3]
        · rw [hD, climb2_snoc _ _ _ _ _ _ r3, r4, rootL_many l (by omega)]; rfl
        · rw [hI]; exact r5
      · have hlen : (l.drop (splitN l.length)).length = l.length - splitN l.length := by rw [List.length_drop]
        obtain ⟨x, rest, r1, _, r3, r4, _⟩ := con_all n (l.drop (splitN l.length)) (m - splitN l.length) (by omega) (by omega) (by omega) (fun hm => by omega)
        rw [hlen] at r3 r4
        have hch := con_high J (m - splitN l.length - 1) (l.length - splitN l.length - 1) (by omega) (by omega)
        rw [show 2 ^ J + (m - splitN l.length - 1) = m - 1 by omega, show 2 ^ J + (l.length - splitN l.length - 1) = l.length - 1 by omega] at hch
        have hD : conD m l.length = conD (m - splitN l.length) (l.length - splitN l.length) ++ [true] := hch.1
        have hI : conI m l.length ≠ 0 := hch.2
        have hm2 : rootL (l.take m) = nodeL (rootL (l.take (splitN l.length))) (rootL ((l.drop (splitN l.length)).take (m - splitN l.length))) := by
          have hml : (l.take m).length = m := by rw [List.length_take]; omega
          have hsm : splitN m = splitN l.length := by rw [e]; exact splitN_eq J m (by omega) (by omega)
          rw [rootL_many (l.take m) (by omega), hml, hsm, List.take_take, Nat.min_eq_left (by omega), List.drop_take]
        refine ⟨x, rest ++ [rootL (l.take (splitN l.length))], ?_, ?_, ?_, ?_, fun h => absurd h hI⟩
        · rw [sub_many l m false h1 (by omega), if_neg hk, r1]; rfl
        · rw [if_neg hI, sub_many l m true h1 (by omega), if_neg hk, r1]; rfl
        · rw [hD]; simp [r3]
        · rw [hD, climb2_snoc _ _ _ _ _ _ r3, r4, hm2, rootL_many l (by omega)]; rfl
end Go.Proofs.YtbpjlancjdbehaaDoor
