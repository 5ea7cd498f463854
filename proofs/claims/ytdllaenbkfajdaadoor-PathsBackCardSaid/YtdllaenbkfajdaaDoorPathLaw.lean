/- paths, plain: on which sides the other hashes stand; what a path comes to -/
import Derived.Test.YtdllaenbkfajdaaDoorTreeLaw
namespace Go.Proofs.YtdllaenbkfajdaaDoor
open Go.Spec
/-- on which side the other hash stands, from the leaf to the root: true: on the left -/
def dirF : Nat → Nat → Nat → List Bool
  | 0, _, _ => []
  | f + 1, i, m => if m = 0 then [] else if i % 2 = 1 then true :: dirF f (i / 2) (m / 2) else if i = m then dirF f (i / 2) (m / 2) else false :: dirF f (i / 2) (m / 2)
def dirD (i m : Nat) : List Bool := dirF m i m
theorem dirF_eq : ∀ (f g i m : Nat), m ≤ f → m ≤ g → dirF f i m = dirF g i m
  | 0, 0, _, _, _, _ => rfl
  | 0, g + 1, i, m, h, _ => by rw [dirF, dirF, if_pos (by omega)]
  | f + 1, 0, i, m, _, h => by rw [dirF, dirF, if_pos (by omega)]
  | f + 1, g + 1, i, m, hf, hg => by
    rw [dirF, dirF]
    by_cases h0 : m = 0
    · rw [if_pos h0, if_pos h0]
    · rw [if_neg h0, if_neg h0, dirF_eq f g (i / 2) (m / 2) (by omega) (by omega)]
theorem dir_zero (i : Nat) : dirD i 0 = [] := rfl
theorem dir_step (i m : Nat) (h : 0 < m) : dirD i m = if i % 2 = 1 then true :: dirD (i / 2) (m / 2) else if i = m then dirD (i / 2) (m / 2) else false :: dirD (i / 2) (m / 2) := by
  unfold dirD
  obtain ⟨f, rfl⟩ : ∃ f, m = f + 1 := ⟨m - 1, by omega⟩
  conv => lhs; rw [dirF, if_neg (by omega)]
  rw [dirF_eq f ((f + 1) / 2) (i / 2) ((f + 1) / 2) (by omega) (Nat.le_refl _)]
theorem dir_odd (i m : Nat) (h : 0 < m) (ho : i % 2 = 1) : dirD i m = true :: dirD (i / 2) (m / 2) := by rw [dir_step i m h, if_pos ho]
theorem dir_last (m : Nat) (h : 0 < m) (he : m % 2 = 0) : dirD m m = dirD (m / 2) (m / 2) := by rw [dir_step m m h, if_neg (by omega), if_pos rfl]
theorem dir_even (i m : Nat) (h : 0 < m) (he : i % 2 = 0) (hn : i ≠ m) : dirD i m = false :: dirD (i / 2) (m / 2) := by rw [dir_step i m h, if_neg (by omega), if_neg hn]
theorem dir_pos : ∀ (m i : Nat), 0 < m → i ≤ m → 0 < (dirD i m).length := by
  intro m
  induction m using Nat.strongRecOn with
  | ind m ih =>
    intro i h hi
    rw [dir_step i m h]
    by_cases h1 : i % 2 = 1
    · rw [if_pos h1]; simp
    · rw [if_neg h1]
      by_cases h2 : i = m
      · rw [if_pos h2]; exact ih (m / 2) (by omega) (i / 2) (by omega) (by omega)
      · rw [if_neg h2]; simp
theorem dir_len : ∀ (J m i : Nat), m < 2 ^ J → (dirD i m).length ≤ J
  | 0, m, i, h => by
    have : m = 0 := by omega
    subst this; simp [dir_zero]
  | J + 1, m, i, h => by
    by_cases h0 : m = 0
    · subst h0; simp [dir_zero]
    · have ih := dir_len J (m / 2) (i / 2) (by rw [Nat.pow_succ] at h; omega)
      rw [dir_step i m (by omega)]
      split
      · simp; omega
      · split
        · omega
        · simp; omega
theorem dir_low : ∀ (J i m : Nat), i < 2 ^ J → 2 ^ J ≤ m → m < 2 ^ (J + 1) → dirD i m = dirD i (2 ^ J - 1) ++ [false]
  | 0, i, m, h1, h2, h3 => by
    have : i = 0 := by simpa using h1
    have : m = 1 := by simp at h2 h3; omega
    subst i; subst m; rfl
  | J + 1, i, m, h1, h2, h3 => by
    rw [Nat.pow_succ] at h1 h2
    rw [Nat.pow_succ] at h3
    have hp : 0 < 2 ^ J := Nat.pow_pos (by omega)
    have ih := dir_low J (i / 2) (m / 2) (by omega) (by omega) (by omega)
    have e : (2 ^ (J + 1) - 1) / 2 = 2 ^ J - 1 := by rw [Nat.pow_succ]; omega
    have hm1 : 0 < 2 ^ (J + 1) - 1 := by rw [Nat.pow_succ]; omega
    by_cases ho : i % 2 = 1
    · rw [dir_odd i m (by omega) ho, dir_odd i _ hm1 ho, ih, e]; rfl
    · rw [dir_even i m (by omega) (by omega) (by omega), dir_even i _ hm1 (by omega) (by rw [Nat.pow_succ]; omega), ih, e]; rfl
theorem dir_high : ∀ (J i m : Nat), i ≤ m → m < 2 ^ J → dirD (2 ^ J + i) (2 ^ J + m) = dirD i m ++ [true]
  | 0, i, m, h1, h2 => by
    have : m = 0 := by simpa using h2
    have : i = 0 := by omega
    subst i; subst m; rfl
  | J + 1, i, m, h1, h2 => by
    have hp : 0 < 2 ^ J := Nat.pow_pos (by omega)
    rw [Nat.pow_succ] at h2 ⊢
    have ih := dir_high J (i / 2) (m / 2) (by omega) (by omega)
    have e1 : (2 ^ J * 2 + i) / 2 = 2 ^ J + i / 2 := by omega
    have e2 : (2 ^ J * 2 + m) / 2 = 2 ^ J + m / 2 := by omega
    by_cases ho : i % 2 = 1
    · rw [dir_odd _ _ (by omega) (by omega), dir_odd i m (by omega) ho, e1, e2, ih]; rfl
    · by_cases hm : i = m
      · subst hm
        rw [dir_last _ (by omega) (by omega), e1, ih]
        by_cases h0 : i = 0
        · subst h0; rfl
        · rw [dir_last i (by omega) (by omega)]
      · rw [dir_even _ _ (by omega) (by omega) (by omega), dir_even i m (by omega) (by omega) hm, e1, e2, ih]; rfl
theorem dir_left (i n : Nat) (h : 2 ≤ n) (hi : i < splitN n) : dirD i (n - 1) = dirD i (splitN n - 1) ++ [false] := by
  obtain ⟨J, h1, h2, h3⟩ := split_pow n h
  rw [h1] at hi ⊢
  exact dir_low J i (n - 1) hi (by omega) (by rw [Nat.pow_succ]; omega)
theorem dir_right (i n : Nat) (h : 2 ≤ n) (hi : splitN n ≤ i) (hin : i < n) : dirD i (n - 1) = dirD (i - splitN n) (n - splitN n - 1) ++ [true] := by
  obtain ⟨J, h1, h2, h3⟩ := split_pow n h
  rw [h1] at hi ⊢
  have := dir_high J (i - 2 ^ J) (n - 2 ^ J - 1) (by omega) (by omega)
  rwa [show 2 ^ J + (i - 2 ^ J) = i by omega, show 2 ^ J + (n - 2 ^ J - 1) = n - 1 by omega] at this
/-- what a leaf and a path come to -/
def upL (b : Bool) (x h : List UInt8) : List UInt8 := if b then nodeL h x else nodeL x h
def climbL : List Bool → List (List UInt8) → List UInt8 → List UInt8
  | b :: ds, h :: p, x => climbL ds p (upL b x h)
  | _, _, x => x
theorem climb_snoc (b : Bool) (h : List UInt8) : ∀ (ds : List Bool) (p : List (List UInt8)) (x : List UInt8), p.length = ds.length → climbL (ds ++ [b]) (p ++ [h]) x = upL b (climbL ds p x) h
  | [], [], x, _ => rfl
  | d :: ds, y :: p, x, hl => by
    show climbL (ds ++ [b]) (p ++ [h]) (upL d x y) = _
    rw [climb_snoc b h ds p (upL d x y) (by simpa using hl)]; rfl
  | [], _ :: _, _, hl => by simp at hl
  | _ :: _, [], _, hl => by simp at hl
/-- the reference's walk, from the root's side -/
def comeF : Nat → List UInt8 → Nat → Nat → List (List UInt8) → List UInt8 × Bool
  | 0, x, _, _, p => (x, p.isEmpty)
  | f + 1, x, i, n, p =>
    if n = 1 then (x, p.isEmpty)
    else match p.getLast? with
      | none => (x, false)
      | some h => if i < splitN n then (nodeL (comeF f x i (splitN n) p.dropLast).1 h, (comeF f x i (splitN n) p.dropLast).2)
        else (nodeL h (comeF f x (i - splitN n) (n - splitN n) p.dropLast).1, (comeF f x (i - splitN n) (n - splitN n) p.dropLast).2)
theorem come_is : ∀ (f : Nat) (x : List UInt8) (i n : Nat) (p : List (List UInt8)), 1 ≤ n → n ≤ f → i < n →
    (comeF f x i n p).2 = decide (p.length = (dirD i (n - 1)).length) ∧ (p.length = (dirD i (n - 1)).length → (comeF f x i n p).1 = climbL (dirD i (n - 1)) p x)
  | 0, x, i, n, p, h1, h2, _ => by omega
  | f + 1, x, i, n, p, h1, h2, hi => by
    by_cases hn : n = 1
    · subst hn
      rw [comeF, if_pos rfl, dir_zero]
      refine ⟨by cases p <;> simp, fun h => ?_⟩
      have : p = [] := List.eq_nil_of_length_eq_zero (by simpa using h)
      subst this; rfl
    · rw [comeF, if_neg hn]
      obtain ⟨s1, s2⟩ := splitN_in n (by omega)
      rcases p.eq_nil_or_concat with rfl | ⟨q, h, rfl⟩
      · have := dir_pos (n - 1) i (by omega) (by omega)
        refine ⟨?_, fun h => ?_⟩
        · simp; omega
        · simp at h; omega
      · simp only [List.concat_eq_append, List.getLast?_concat, List.dropLast_concat, List.length_append, List.length_singleton]
        by_cases hk : i < splitN n
        · obtain ⟨e1, e2⟩ := come_is f x i (splitN n) q s1 (by omega) hk
          rw [if_pos hk, dir_left i n (by omega) hk]
          simp only [List.length_append, List.length_singleton]
          refine ⟨by rw [e1]; simp, fun h => ?_⟩
          rw [climb_snoc _ _ _ _ _ (by omega), e2 (by omega)]; rfl
        · obtain ⟨e1, e2⟩ := come_is f x (i - splitN n) (n - splitN n) q (by omega) (by omega) (by omega)
          rw [if_neg hk, dir_right i n (by omega) (by omega) hi]
          simp only [List.length_append, List.length_singleton]
          refine ⟨by rw [e1]; simp, fun h => ?_⟩
          rw [climb_snoc _ _ _ _ _ (by omega), e2 (by omega)]; rfl
/-- the path of a leaf -/
def pathF : Nat → List (List UInt8) → Nat → List (List UInt8)
  | 0, _, _ => []
  | f + 1, l, i => if l.length ≤ 1 then [] else if i < splitN l.length then pathF f (l.take (splitN l.length)) i ++ [rootL (l.drop (splitN l.length))] else pathF f (l.drop (splitN l.length)) (i - splitN l.length) ++ [rootL (l.take (splitN l.length))]
def pathL (l : List (List UInt8)) (i : Nat) : List (List UInt8) := pathF l.length l i
theorem pathF_eq : ∀ (f g : Nat) (l : List (List UInt8)) (i : Nat), l.length ≤ f → l.length ≤ g → pathF f l i = pathF g l i
  | 0, 0, _, _, _, _ => rfl
  | 0, g + 1, l, i, h, _ => by rw [pathF, pathF, if_pos (by omega)]
  | f + 1, 0, l, i, _, h => by rw [pathF, pathF, if_pos (by omega)]
  | f + 1, g + 1, l, i, hf, hg => by
    rw [pathF, pathF]
    by_cases h0 : l.length ≤ 1
    · rw [if_pos h0, if_pos h0]
    · obtain ⟨s1, s2⟩ := splitN_in l.length (by omega)
      rw [if_neg h0, if_neg h0, pathF_eq f g (l.take _) i (by rw [List.length_take]; omega) (by rw [List.length_take]; omega), pathF_eq f g (l.drop _) _ (by rw [List.length_drop]; omega) (by rw [List.length_drop]; omega)]
theorem path_one (l : List (List UInt8)) (i : Nat) (h : l.length ≤ 1) : pathL l i = [] := by
  unfold pathL
  cases hl : l.length with
  | zero => rfl
  | succ f => rw [pathF, if_pos h]
theorem path_many (l : List (List UInt8)) (i : Nat) (h : 2 ≤ l.length) : pathL l i = if i < splitN l.length then pathL (l.take (splitN l.length)) i ++ [rootL (l.drop (splitN l.length))] else pathL (l.drop (splitN l.length)) (i - splitN l.length) ++ [rootL (l.take (splitN l.length))] := by
  obtain ⟨s1, s2⟩ := splitN_in l.length h
  unfold pathL
  obtain ⟨f, hf⟩ : ∃ f, l.length = f + 1 := ⟨l.length - 1, by omega⟩
  have e : pathF l.length l i = if i < splitN l.length then pathF f (l.take (splitN l.length)) i ++ [rootL (l.drop (splitN l.length))] else pathF f (l.drop (splitN l.length)) (i - splitN l.length) ++ [rootL (l.take (splitN l.length))] := by
    conv => lhs; rw [hf, pathF, if_neg (by omega)]
  rw [e, pathF_eq f _ (l.take _) i (by rw [List.length_take]; omega) (Nat.le_refl _), pathF_eq f _ (l.drop _) _ (by rw [List.length_drop]; omega) (Nat.le_refl _)]
theorem path_all : ∀ (n : Nat) (l : List (List UInt8)) (i : Nat), l.length ≤ n → i < l.length → (pathL l i).length = (dirD i (l.length - 1)).length ∧ climbL (dirD i (l.length - 1)) (pathL l i) (l.getD i []) = rootL l
  | 0, l, i, h, hi => by omega
  | n + 1, l, i, h, hi => by
    by_cases h1 : l.length ≤ 1
    · match l, hi, h1 with
      | [x], hi, _ =>
        have : i = 0 := by simpa using hi
        subst this
        rw [path_one _ _ (by simp), rootL_one]
        exact ⟨rfl, rfl⟩
      | [], hi, _ => simp at hi
      | _ :: _ :: _, _, h1 => simp at h1
    · obtain ⟨s1, s2⟩ := splitN_in l.length (by omega)
      rw [path_many l i (by omega), rootL_many l (by omega)]
      by_cases hk : i < splitN l.length
      · obtain ⟨e1, e2⟩ := path_all n (l.take (splitN l.length)) i (by rw [List.length_take]; omega) (by rw [List.length_take]; omega)
        rw [List.length_take, Nat.min_eq_left (by omega)] at e1 e2
        rw [if_pos hk, dir_left i _ (by omega) hk]
        refine ⟨by simp [e1], ?_⟩
        rw [climb_snoc _ _ _ _ _ e1]
        have : (l.take (splitN l.length)).getD i [] = l.getD i [] := by simp [List.getD_eq_getElem?_getD, List.getElem?_take, hk]
        rw [this] at e2
        rw [e2]; rfl
      · obtain ⟨e1, e2⟩ := path_all n (l.drop (splitN l.length)) (i - splitN l.length) (by rw [List.length_drop]; omega) (by rw [List.length_drop]; omega)
        rw [List.length_drop] at e1 e2
        rw [if_neg hk, dir_right i _ (by omega) (by omega) hi]
        refine ⟨by simp [e1], ?_⟩
        rw [climb_snoc _ _ _ _ _ e1]
        have : (l.drop (splitN l.length)).getD (i - splitN l.length) [] = l.getD i [] := by
          simp only [List.getD_eq_getElem?_getD, List.getElem?_drop]
          rw [show splitN l.length + (i - splitN l.length) = i by omega]
        rw [this] at e2
        rw [e2]; rfl
def checkN (x : List UInt8) (i n : Nat) (p : List (List UInt8)) (r : List UInt8) : Bool := decide (p.length = (dirD i (n - 1)).length) && (climbL (dirD i (n - 1)) p x == r)
theorem check_path (l : List (List UInt8)) (i : Nat) (hi : i < l.length) : checkN (l.getD i []) i l.length (pathL l i) (rootL l) = true := by
  obtain ⟨e1, e2⟩ := path_all l.length l i (Nat.le_refl _) hi
  unfold checkN
  rw [e1, e2]; simp
end Go.Proofs.YtdllaenbkfajdaaDoor
