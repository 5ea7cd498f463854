/- trees.Split, speculumref04.Split -/
import Derived.Test.YtbpjlancjdbehaaDoorQAnyOp
import Derived.Test.YtbpjlancjdbehaaDoorQBase
import Derived.Test.YtbpjlancjdbehaaDoorQTreeHash
import Derived.Test.YtbpjlancjdbehaaDoorProg
set_option maxRecDepth 100000
namespace Go.Spec
/-- where so many leaves are parted -/
def splitN (n : Nat) : Nat := if n < 2 then 0 else 2 ^ Nat.log2 (n - 1)
theorem split_pow (n : Nat) (h : 2 ≤ n) : ∃ J, splitN n = 2 ^ J ∧ 2 ^ J < n ∧ n ≤ 2 * 2 ^ J := by
  refine ⟨Nat.log2 (n - 1), by rw [splitN, if_neg (by omega)], ?_, ?_⟩
  · have := Nat.log2_self_le (show n - 1 ≠ 0 by omega); omega
  · have := Nat.lt_log2_self (n := n - 1)
    rw [Nat.pow_succ] at this
    omega
theorem pow_lt (i J : Nat) (h : i < J) : 2 * 2 ^ i ≤ 2 ^ J := by
  have := Nat.pow_le_pow_right (n := 2) (by omega) (show i + 1 ≤ J by omega)
  rw [Nat.pow_succ] at this
  omega
end Go.Spec
namespace Go.Proofs.YtbpjlancjdbehaaDoor
open Go.RowKit Go.Spec
set_option maxHeartbeats 400000 in
theorem split_small (n : Int) (w : World) (h : n < 2) (h0 : -9223372036854775808 ≤ n) :
    Calls Tryd.prog 45 #[.int .i64 n] w fun e w' => e = .returned (.int .i64 0) ∧ w = w' := by
  have hd : decide (n < 2) = true := by simpa using h
  clear h0
  go_enter Tryd.func45, Tryd.ntmps45
  go_wp2
  go_ret
  exact ⟨rfl, rfl⟩
set_option maxHeartbeats 400000 in
theorem split_big (n : Nat) (w : World) (h : 2 ≤ n) (hn : n ≤ 9223372036854775807) :
    Calls Tryd.prog 45 #[.int .i64 (n : Int)] w fun e w' => e = .returned (.int .i64 (splitN n : Nat)) ∧ w = w' := by
  obtain ⟨J, hJ, hJ1, hJ2⟩ := split_pow n h
  have HJ := hid hJ; clear hJ
  have hd : decide ((n : Int) < 2) = false := by simp; omega
  have Hn := hid hn
  go_enter Tryd.func45, Tryd.ntmps45
  go_wp2
  go_loop [3] (fun k => ∃ i : Nat, i ≤ J ∧ k = .int .i64 ((2 ^ i : Nat) : Int)) (fun k => n - (intOf k).toNat)
  case atStart => exact ⟨0, by omega, by simp⟩
  case round =>
    obtain ⟨i, hi, rfl⟩ := hrel
    have hpos : 0 < 2 ^ i := Nat.pow_pos (by omega)
    by_cases hlt : i < J
    · have hp := pow_lt i J hlt
      have Hs := hid (show 2 ^ (i + 1) = 2 * 2 ^ i by rw [Nat.pow_succ]; omega)
      generalize 2 ^ i = p at *
      have hd2 : decide ((p : Int) < (n : Int) - (p : Int)) = true := by simp; omega
      go_wp2
      go_round
      case rel => exact ⟨i + 1, by omega, by rw [Hs.out]; go_num⟩
      case measure => simp [intOf]; omega
    · have hiJ : i = J := by omega
      subst hiJ
      generalize 2 ^ i = p at *
      have hd2 : decide ((p : Int) < (n : Int) - (p : Int)) = false := by simp; omega
      go_wp2
      go_ret
      exact ⟨by rw [HJ.out]; rfl, rfl⟩
set_option maxHeartbeats 400000 in
theorem rsplit_small (n : Int) (w : World) (h : n < 2) (h0 : -9223372036854775808 ≤ n) :
    Calls Tryd.prog 67 #[.int .i64 n] w fun e w' => e = .returned (.int .i64 0) ∧ w = w' := by
  have hd : decide (1 < n) = false := by simp; omega
  clear h0
  go_enter Tryd.func67, Tryd.ntmps67
  go_wp2
  go_loop [3, 4] (fun k m => k = .int .i64 0 ∧ m = .int .i64 1) (fun _ _ => 0)
  case atStart => exact ⟨rfl, rfl⟩
  case round =>
    obtain ⟨rfl, rfl⟩ := hrel
    go_wp2
    go_ret
    exact ⟨rfl, rfl⟩
set_option maxHeartbeats 400000 in
theorem rsplit_big (n : Nat) (w : World) (h : 2 ≤ n) (hn : n ≤ 9223372036854775807) :
    Calls Tryd.prog 67 #[.int .i64 (n : Int)] w fun e w' => e = .returned (.int .i64 (splitN n : Nat)) ∧ w = w' := by
  obtain ⟨J, hJ, hJ1, hJ2⟩ := split_pow n h
  have HJ := hid hJ; clear hJ
  have Hn := hid hn
  go_enter Tryd.func67, Tryd.ntmps67
  go_wp2
  go_loop [3, 4] (fun k m => ∃ i : Nat, i ≤ J + 1 ∧ ((i = 0 ∧ k = .int .i64 0 ∧ m = .int .i64 1) ∨ (∃ j : Nat, i = j + 1 ∧ k = .int .i64 ((2 ^ j : Nat) : Int) ∧ m = .int .i64 (wrap64 (((2 ^ j : Nat) : Int) * 2))))) (fun k _ => n - (intOf k).toNat)
  case atStart => exact ⟨0, by omega, .inl ⟨rfl, rfl, rfl⟩⟩
  case round =>
    obtain ⟨i, hi, hc⟩ := hrel
    rcases hc with ⟨rfl, rfl, rfl⟩ | ⟨j, rfl, rfl, rfl⟩
    · have hd2 : decide ((1 : Int) < (n : Int)) = true := by simp; omega
      go_wp2
      go_round
      case rel => exact ⟨1, by omega, .inr ⟨0, rfl, by simp, by simp [wrap64]⟩⟩
      case measure => simp [intOf]; omega
    · have hpos : 0 < 2 ^ j := Nat.pow_pos (by omega)
      by_cases hlt : j < J
      · have hp := pow_lt j J hlt
        have Hs := hid (show 2 ^ (j + 1) = 2 * 2 ^ j by rw [Nat.pow_succ]; omega)
        generalize 2 ^ j = p at *
        obtain ⟨q, hq⟩ : ∃ q, 2 * p = q := ⟨_, rfl⟩
        have e1 : wrap64 ((p : Int) * 2) = (q : Int) := by unfold wrap64; omega
        rw [e1]
        have hd2 : decide (q < n) = true := by simp; omega
        have hd3 : decide (0 < q) = true := by simp; omega
        have hq0 : 0 < q := by omega
        have Hq := hid hq
        clear hq e1
        go_wp2
        go_round
        case rel => exact ⟨j + 1 + 1, by omega, .inr ⟨j + 1, rfl, by rw [Hs.out, Hq.out], by rw [Hs.out, Hq.out]⟩⟩
        case measure => simp [intOf]; have := Hq.out; omega
      · have hjJ : j = J := by omega
        subst hjJ
        have hple : 2 ^ j ≤ 4611686018427387904 := by
          have h62 : j ≤ 62 := by
            rcases Nat.lt_or_ge 62 j with h1 | h1
            · have := Nat.pow_le_pow_right (n := 2) (by omega) h1
              omega
            · exact h1
          have := Nat.pow_le_pow_right (n := 2) (by omega) h62
          omega
        generalize 2 ^ j = p at *
        by_cases hbig : 2 * p < 9223372036854775808
        · obtain ⟨q, hq⟩ : ∃ q, 2 * p = q := ⟨_, rfl⟩
          have e1 : wrap64 ((p : Int) * 2) = (q : Int) := by unfold wrap64; omega
          rw [e1]
          have hd2 : decide (q < n) = false := by simp; omega
          clear e1
          go_wp2
          go_ret
          exact ⟨by rw [HJ.out]; rfl, rfl⟩
        · have e1 : wrap64 ((p : Int) * 2) = -9223372036854775808 := by unfold wrap64; omega
          rw [e1]
          have hd2 : decide ((-9223372036854775808 : Int) < (n : Int)) = true := by simp; omega
          clear e1
          go_wp2
          go_ret
          exact ⟨by rw [HJ.out]; rfl, rfl⟩
end Go.Proofs.YtbpjlancjdbehaaDoor
/- the root of leaves, plain -/
namespace Go.Spec
theorem splitN_in (n : Nat) (h : 2 ≤ n) : 0 < splitN n ∧ splitN n < n := by
  obtain ⟨J, h1, h2, _⟩ := split_pow n h
  rw [h1]
  exact ⟨Nat.pow_pos (by omega), h2⟩
end Go.Spec
namespace Go.Proofs.YtbpjlancjdbehaaDoor
open Go.Spec
def rootF : Nat → List (List UInt8) → List UInt8
  | 0, _ => sumL []
  | f + 1, l => if l.length = 0 then sumL [] else if l.length = 1 then l.getD 0 [] else nodeL (rootF f (l.take (splitN l.length))) (rootF f (l.drop (splitN l.length)))
def rootL (l : List (List UInt8)) : List UInt8 := rootF l.length l
theorem rootF_eq : ∀ (f g : Nat) (l : List (List UInt8)), l.length ≤ f → l.length ≤ g → rootF f l = rootF g l
  | 0, 0, _, _, _ => rfl
  | 0, g + 1, l, h, _ => by rw [rootF, rootF, if_pos (by omega)]
  | f + 1, 0, l, _, h => by rw [rootF, rootF, if_pos (by omega)]
  | f + 1, g + 1, l, hf, hg => by
    rw [rootF, rootF]
    by_cases h0 : l.length = 0
    · rw [if_pos h0, if_pos h0]
    · rw [if_neg h0, if_neg h0]
      by_cases h1 : l.length = 1
      · rw [if_pos h1, if_pos h1]
      · rw [if_neg h1, if_neg h1]
        obtain ⟨h2, h3⟩ := splitN_in l.length (by omega)
        rw [rootF_eq f g (l.take _) (by rw [List.length_take]; omega) (by rw [List.length_take]; omega), rootF_eq f g (l.drop _) (by rw [List.length_drop]; omega) (by rw [List.length_drop]; omega)]
theorem rootL_nil : rootL [] = sumL [] := rfl
theorem rootL_one (x : List UInt8) : rootL [x] = x := rfl
theorem rootL_many (l : List (List UInt8)) (h : 2 ≤ l.length) : rootL l = nodeL (rootL (l.take (splitN l.length))) (rootL (l.drop (splitN l.length))) := by
  obtain ⟨h2, h3⟩ := splitN_in l.length h
  unfold rootL
  obtain ⟨f, hf⟩ : ∃ f, l.length = f + 1 := ⟨l.length - 1, by omega⟩
  have e : rootF l.length l = nodeL (rootF f (l.take (splitN l.length))) (rootF f (l.drop (splitN l.length))) := by
    conv => lhs; rw [hf, rootF, if_neg (by omega), if_neg (by omega)]
  rw [e, rootF_eq f _ (l.take _) (by rw [List.length_take]; omega) (Nat.le_refl _), rootF_eq f _ (l.drop _) (by rw [List.length_drop]; omega) (Nat.le_refl _)]
theorem rootL_len : ∀ (n : Nat) (l : List (List UInt8)), l.length ≤ n → (∀ x ∈ l, x.length = 32) → (rootL l).length = 32
  | 0, l, h, _ => by
    have : l = [] := List.eq_nil_of_length_eq_zero (by omega)
    subst this; exact sumL_len _
  | n + 1, l, h, h32 => by
    match l, h, h32 with
    | [], _, _ => exact sumL_len _
    | [x], _, h32 => exact h32 x (by simp)
    | x :: y :: r, _, _ => rw [rootL_many _ (by simp)]; exact nodeL_len _ _
end Go.Proofs.YtbpjlancjdbehaaDoor
/- paths, plain: on which sides the other hashes stand; what a path comes to -/
namespace Go.Proofs.YtbpjlancjdbehaaDoor
open Go.Spec
/-- on which side the other hash stands, from the leaf to the root: true: on the left -/
def dirF : Nat → Nat → Nat → List Bool
  | 0, _, _ => []
  | f + 1, i, m => if m = 0 then [] else if i % 2 = 1 then true :: dirF f (i / 2) (m / 2) else if i = m then dirF f (i / 2) (m / 2) else false :: dirF f (i / 2) (m / 2)
def dirD (i m : Nat) : List Bool := dirF m i m
theorem dirF_eq : ∀ (f g i m : Nat), m ≤ f → m ≤ g → dirF f i m = dirF g i m
  | 0, 0, _, _, _, _ => rfl
  | 0, g + 1, i, m, h, _ => by rw [dirF, dirF, if_pos (by omega)]
  | f + 1, 0, i, m, _, h => by rw [dirF, dirF, if_pos (by omega)]
  | f + 1, g + 1, i, m, hf, hg => by
    rw [dirF, dirF]
    by_cases h0 : m = 0
    · rw [if_pos h0, if_pos h0]
    · rw [if_neg h0, if_neg h0, dirF_eq f g (i / 2) (m / 2) (by omega) (by omega)]
theorem dir_zero (i : Nat) : dirD i 0 = [] := rfl
theorem dir_step (i m : Nat) (h : 0 < m) : dirD i m = if i % 2 = 1 then true :: dirD (i / 2) (m / 2) else if i = m then dirD (i / 2) (m / 2) else false :: dirD (i / 2) (m / 2) := by
  unfold dirD
  obtain ⟨f, rfl⟩ : ∃ f, m = f + 1 := ⟨m - 1, by omega⟩
  conv => lhs; rw [dirF, if_neg (by omega)]
  rw [dirF_eq f ((f + 1) / 2) (i / 2) ((f + 1) / 2) (by omega) (Nat.le_refl _)]
theorem dir_odd (i m : Nat) (h : 0 < m) (ho : i % 2 = 1) : dirD i m = true :: dirD (i / 2) (m / 2) := by rw [dir_step i m h, if_pos ho]
theorem dir_last (m : Nat) (h : 0 < m) (he : m % 2 = 0) : dirD m m = dirD (m / 2) (m / 2) := by rw [dir_step m m h, if_neg (by omega), if_pos rfl]
theorem dir_even (i m : Nat) (h : 0 < m) (he : i % 2 = 0) (hn : i ≠ m) : dirD i m = false :: dirD (i / 2) (m / 2) := by rw [dir_step i m h, if_neg (by omega), if_neg hn]
theorem dir_pos : ∀ (m i : Nat), 0 < m → i ≤ m → 0 < (dirD i m).length := by
  intro m
  induction m using Nat.strongRecOn with
  | ind m ih =>
    intro i h hi
    rw [dir_step i m h]
    by_cases h1 : i % 2 = 1
    · rw [if_pos h1]; simp
    · rw [if_neg h1]
      by_cases h2 : i = m
      · rw [if_pos h2]; exact ih (m / 2) (by omega) (i / 2) (by omega) (by omega)
      · rw [if_neg h2]; simp
theorem dir_len : ∀ (J m i : Nat), m < 2 ^ J → (dirD i m).length ≤ J
  | 0, m, i, h => by
    have : m = 0 := by omega
    subst this; simp [dir_zero]
  | J + 1, m, i, h => by
    by_cases h0 : m = 0
    · subst h0; simp [dir_zero]
    · have ih := dir_len J (m / 2) (i / 2) (by rw [Nat.pow_succ] at h; omega)
      rw [dir_step i m (by omega)]
      split
      · simp; omega
      · split
        · omega
        · simp; omega
theorem dir_low : ∀ (J i m : Nat), i < 2 ^ J → 2 ^ J ≤ m → m < 2 ^ (J + 1) → dirD i m = dirD i (2 ^ J - 1) ++ [false]
  | 0, i, m, h1, h2, h3 => by
    have : i = 0 := by simpa using h1
    have : m = 1 := by simp at h2 h3; omega
    subst i; subst m; rfl
  | J + 1, i, m, h1, h2, h3 => by
    rw [Nat.pow_succ] at h1 h2
    rw [Nat.pow_succ] at h3
    have hp : 0 < 2 ^ J := Nat.pow_pos (by omega)
    have ih := dir_low J (i / 2) (m / 2) (by omega) (by omega) (by omega)
    have e : (2 ^ (J + 1) - 1) / 2 = 2 ^ J - 1 := by rw [Nat.pow_succ]; omega
    have hm1 : 0 < 2 ^ (J + 1) - 1 := by rw [Nat.pow_succ]; omega
    by_cases ho : i % 2 = 1
    · rw [dir_odd i m (by omega) ho, dir_odd i _ hm1 ho, ih, e]; rfl
    · rw [dir_even i m (by omega) (by omega) (by omega), dir_even i _ hm1 (by omega) (by rw [Nat.pow_succ]; omega), ih, e]; rfl
theorem dir_high : ∀ (J i m : Nat), i ≤ m → m < 2 ^ J → dirD (2 ^ J + i) (2 ^ J + m) = dirD i m ++ [true]
  | 0, i, m, h1, h2 => by
    have : m = 0 := by simpa using h2
    have : i = 0 := by omega
    subst i; subst m; rfl
  | J + 1, i, m, h1, h2 => by
    have hp : 0 < 2 ^ J := Nat.pow_pos (by omega)
    rw [Nat.pow_succ] at h2 ⊢
    have ih := dir_high J (i / 2) (m / 2) (by omega) (by omega)
    have e1 : (2 ^ J * 2 + i) / 2 = 2 ^ J + i / 2 := by omega
    have e2 : (2 ^ J * 2 + m) / 2 = 2 ^ J + m / 2 := by omega
    by_cases ho : i % 2 = 1
    · rw [dir_odd _ _ (by omega) (by omega), dir_odd i m (by omega) ho, e1, e2, ih]; rfl
    · by_cases hm : i = m
      · subst hm
        rw [dir_last _ (by omega) (by omega), e1, ih]
        by_cases h0 : i = 0
        · subst h0; rfl
        · rw [dir_last i (by omega) (by omega)]
      · rw [dir_even _ _ (by omega) (by omega) (by omega), dir_even i m (by omega) (by omega) hm, e1, e2, ih]; rfl
theorem dir_left (i n : Nat) (h : 2 ≤ n) (hi : i < splitN n) : dirD i (n - 1) = dirD i (splitN n - 1) ++ [false] := by
  obtain ⟨J, h1, h2, h3⟩ := split_pow n h
  rw [h1] at hi ⊢
  exact dir_low J i (n - 1) hi (by omega) (by rw [Nat.pow_succ]; omega)
theorem dir_right (i n : Nat) (h : 2 ≤ n) (hi : splitN n ≤ i) (hin : i < n) : dirD i (n - 1) = dirD (i - splitN n) (n - splitN n - 1) ++ [true] := by
  obtain ⟨J, h1, h2, h3⟩ := split_pow n h
  rw [h1] at hi ⊢
  have := dir_high J (i - 2 ^ J) (n - 2 ^ J - 1) (by omega) (by omega)
  rwa [show 2 ^ J + (i - 2 ^ J) = i by omega, show 2 ^ J + (n - 2 ^ J - 1) = n - 1 by omega] at this
/-- what a leaf and a path come to -/
def upL (b : Bool) (x h : List UInt8) : List UInt8 := if b then nodeL h x else nodeL x h
def climbL : List Bool → List (List UInt8) → List UInt8 → List UInt8
  | b :: ds, h :: p, x => climbL ds p (upL b x h)
  | _, _, x => x
theorem climb_snoc (b : Bool) (h : List UInt8) : ∀ (ds : List Bool) (p : List (List UInt8)) (x : List UInt8), p.length = ds.length → climbL (ds ++ [b]) (p ++ [h]) x = upL b (climbL ds p x) h
  | [], [], x, _ => rfl
  | d :: ds, y :: p, x, hl => by
    show climbL (ds ++ [b]) (p ++ [h]) (upL d x y) = _
    rw [climb_snoc b h ds p (upL d x y) (by simpa using hl)]; rfl
  | [], _ :: _, _, hl => by simp at hl
  | _ :: _, [], _, hl => by simp at hl
/-- the reference's walk, from the root's side -/
def comeF : Nat → List UInt8 → Nat → Nat → List (List UInt8) → List UInt8 × Bool
  | 0, x, _, _, p => (x, p.isEmpty)
  | f + 1, x, i, n, p =>
    if n = 1 then (x, p.isEmpty)
    else match p.getLast? with
      | none => (x, false)
      | some h => if i < splitN n then (nodeL (comeF f x i (splitN n) p.dropLast).1 h, (comeF f x i (splitN n) p.dropLast).2)
        else (nodeL h (comeF f x (i - splitN n) (n - splitN n) p.dropLast).1, (comeF f x (i - splitN n) (n - splitN n) p.dropLast).2)
theorem come_is : ∀ (f : Nat) (x : List UInt8) (i n : Nat) (p : List (List UInt8)), 1 ≤ n → n ≤ f → i < n →
    (comeF f x i n p).2 = decide (p.length = (dirD i (n - 1)).length) ∧ (p.length = (dirD i (n - 1)).length → (comeF f x i n p).1 = climbL (dirD i (n - 1)) p x)
  | 0, x, i, n, p, h1, h2, _ => by omega
  | f + 1, x, i, n, p, h1, h2, hi => by
    by_cases hn : n = 1
    · subst hn
      rw [comeF, if_pos rfl, dir_zero]
      refine ⟨by cases p <;> simp, fun h => ?_⟩
      have : p = [] := List.eq_nil_of_length_eq_zero (by simpa using h)
      subst this; rfl
    · rw [comeF, if_neg hn]
      obtain ⟨s1, s2⟩ := splitN_in n (by omega)
      rcases p.eq_nil_or_concat with rfl | ⟨q, h, rfl⟩
      · have := dir_pos (n - 1) i (by omega) (by omega)
        refine ⟨?_, fun h => ?_⟩
        · simp; omega
        · simp at h; omega
      · simp only [List.concat_eq_append, List.getLast?_concat, List.dropLast_concat, List.length_append, List.length_singleton]
        by_cases hk : i < splitN n
        · obtain ⟨e1, e2⟩ := come_is f x i (splitN n) q s1 (by omega) hk
          rw [if_pos hk, dir_left i n (by omega) hk]
          simp only [List.length_append, List.length_singleton]
          refine ⟨by rw [e1]; simp, fun h => ?_⟩
          rw [climb_snoc _ _ _ _ _ (by omega), e2 (by omega)]; rfl
        · obtain ⟨e1, e2⟩ := come_is f x (i - splitN n) (n - splitN n) q (by omega) (by omega) (by omega)
          rw [if_neg hk, dir_right i n (by omega) (by omega) hi]
          simp only [List.length_append, List.length_singleton]
          refine ⟨by rw [e1]; simp, fun h => ?_⟩
          rw [climb_snoc _ _ _ _ _ (by omega), e2 (by omega)]; rfl
/-- the path of a leaf -/
def pathF : Nat → List (List UInt8) → Nat → List (List UInt8)
  | 0, _, _ => []
  | f + 1, l, i => if l.length ≤ 1 then [] else if i < splitN l.length then pathF f (l.take (splitN l.length)) i ++ [rootL (l.drop (splitN l.length))] else pathF f (l.drop (splitN l.length)) (i - splitN l.length) ++ [rootL (l.take (splitN l.length))]
def pathL (l : List (List UInt8)) (i : Nat) : List (List UInt8) := pathF l.length l i
theorem pathF_eq : ∀ (f g : Nat) (l : List (List UInt8)) (i : Nat), l.length ≤ f → l.length ≤ g → pathF f l i = pathF g l i
  | 0, 0, _, _, _, _ => rfl
  | 0, g + 1, l, i, h, _ => by rw [pathF, pathF, if_pos (by omega)]
  | f + 1, 0, l, i, _, h => by rw [pathF, pathF, if_pos (by omega)]
  | f + 1, g + 1, l, i, hf, hg => by
    rw [pathF, pathF]
    by_cases h0 : l.length ≤ 1
    · rw [if_pos h0, if_pos h0]
    · obtain ⟨s1, s2⟩ := splitN_in l.length (by omega)
      rw [if_neg h0, if_neg h0, pathF_eq f g (l.take _) i (by rw [List.length_take]; omega) (by rw [List.length_take]; omega), pathF_eq f g (l.drop _) _ (by rw [List.length_drop]; omega) (by rw [List.length_drop]; omega)]
theorem path_one (l : List (List UInt8)) (i : Nat) (h : l.length ≤ 1) : pathL l i = [] := by
  unfold pathL
  cases hl : l.length with
  | zero => rfl
  | succ f => rw [pathF, if_pos h]
theorem path_many (l : List (List UInt8)) (i : Nat) (h : 2 ≤ l.length) : pathL l i = if i < splitN l.length then pathL (l.take (splitN l.length)) i ++ [rootL (l.drop (splitN l.length))] else pathL (l.drop (splitN l.length)) (i - splitN l.length) ++ [rootL (l.take (splitN l.length))] := by
  obtain ⟨s1, s2⟩ := splitN_in l.length h
  unfold pathL
  obtain ⟨f, hf⟩ : ∃ f, l.length = f + 1 := ⟨l.length - 1, by omega⟩
  have e : pathF l.length l i = if i < splitN l.length then pathF f (l.take (splitN l.length)) i ++ [rootL (l.drop (splitN l.length))] else pathF f (l.drop (splitN l.length)) (i - splitN l.length) ++ [rootL (l.take (splitN l.length))] := by
    conv => lhs; rw [hf, pathF, if_neg (by omega)]
  rw [e, pathF_eq f _ (l.take _) i (by rw [List.length_take]; omega) (Nat.le_refl _), pathF_eq f _ (l.drop _) _ (by rw [List.length_drop]; omega) (Nat.le_refl _)]
theorem path_all : ∀ (n : Nat) (l : List (List UInt8)) (i : Nat), l.length ≤ n → i < l.length → (pathL l i).length = (dirD i (l.length - 1)).length ∧ climbL (dirD i (l.length - 1)) (pathL l i) (l.getD i []) = rootL l
  | 0, l, i, h, hi => by omega
  | n + 1, l, i, h, hi => by
    by_cases h1 : l.length ≤ 1
    · match l, hi, h1 with
      | [x], hi, _ =>
        have : i = 0 := by simpa using hi
        subst this
        rw [path_one _ _ (by simp), rootL_one]
        exact ⟨rfl, rfl⟩
      | [], hi, _ => simp at hi
      | _ :: _ :: _, _, h1 => simp at h1
    · obtain ⟨s1, s2⟩ := splitN_in l.length (by omega)
      rw [path_many l i (by omega), rootL_many l (by omega)]
      by_cases hk : i < splitN l.length
      · obtain ⟨e1, e2⟩ := path_all n (l.take (splitN l.length)) i (by rw [List.length_take]; omega) (by rw [List.length_take]; omega)
        rw [List.length_take, Nat.min_eq_left (by omega)] at e1 e2
        rw [if_pos hk, dir_left i _ (by omega) hk]
        refine ⟨by simp [e1], ?_⟩
        rw [climb_snoc _ _ _ _ _ e1]
        have : (l.take (splitN l.length)).getD i [] = l.getD i [] := by simp [List.getD_eq_getElem?_getD, List.getElem?_take, hk]
        rw [this] at e2
        rw [e2]; rfl
      · obtain ⟨e1, e2⟩ := path_all n (l.drop (splitN l.length)) (i - splitN l.length) (by rw [List.length_drop]; omega) (by rw [List.length_drop]; omega)
        rw [List.length_drop] at e1 e2
        rw [if_neg hk, dir_right i _ (by omega) (by omega) hi]
        refine ⟨by simp [e1], ?_⟩
        rw [climb_snoc _ _ _ _ _ e1]
        have : (l.drop (splitN l.length)).getD (i - splitN l.length) [] = l.getD i [] := by
          simp only [List.getD_eq_getElem?_getD, List.getElem?_drop]
          rw [show splitN l.length + (i - splitN l.length) = i by omega]
        rw [this] at e2
        rw [e2]; rfl
def checkN (x : List UInt8) (i n : Nat) (p : List (List UInt8)) (r : List UInt8) : Bool := decide (p.length = (dirD i (n - 1)).length) && (climbL (dirD i (n - 1)) p x == r)
theorem check_path (l : List (List UInt8)) (i : Nat) (hi : i < l.length) : checkN (l.getD i []) i l.length (pathL l i) (rootL l) = true := by
  obtain ⟨e1, e2⟩ := path_all l.length l i (Nat.le_refl _) hi
  unfold checkN
  rw [e1, e2]; simp
end Go.Proofs.YtbpjlancjdbehaaDoor
/- tiles, plain: which full trees there are; the root, the path and the proof by them -/
namespace Go.Spec
theorem splitN_eq (J n : Nat) (h1 : 2 ^ J < n) (h2 : n ≤ 2 * 2 ^ J) : splitN n = 2 ^ J := by
  have hp : 0 < 2 ^ J := Nat.pow_pos (by omega)
  obtain ⟨K, e, a, b⟩ := split_pow n (by omega)
  rw [e]
  rcases Nat.lt_trichotomy K J with h | h | h
  · have := pow_lt K J h; omega
  · rw [h]
  · have := pow_lt J K h; omega
end Go.Spec
namespace Go.Proofs.YtbpjlancjdbehaaDoor
open Go.Spec
/-- the leaves from a up to b -/
def seg (l : List (List UInt8)) (a b : Nat) : List (List UInt8) := (l.take b).drop a
theorem seg_len (l : List (List UInt8)) (a b : Nat) (h : b ≤ l.length) : (seg l a b).length = b - a := by
  unfold seg; rw [List.length_drop, List.length_take]; omega
theorem seg_whole (l : List (List UInt8)) (b : Nat) : seg l 0 b = l.take b := rfl
theorem seg_app (l r : List (List UInt8)) (a b : Nat) (h : b ≤ l.length) : seg (l ++ r) a b = seg l a b := by
  unfold seg; rw [List.take_append_of_le_length h]
theorem seg_take (l : List (List UInt8)) (a b k : Nat) (h : k ≤ b - a) : (seg l a b).take k = seg l a (a + k) := by
  unfold seg
  by_cases hab : a ≤ b
  · rw [List.take_drop, List.take_take, Nat.min_eq_left (by omega)]
  · have : k = 0 := by omega
    subst this
    rw [List.take_zero, Nat.add_zero, List.drop_eq_nil_of_le (by rw [List.length_take]; omega)]
theorem seg_drop (l : List (List UInt8)) (a b k : Nat) : (seg l a b).drop k = seg l (a + k) b := by
  unfold seg; rw [List.drop_drop]
theorem seg_32 {l : List (List UInt8)} (h : ∀ x ∈ l, x.length = 32) (a b : Nat) : ∀ x ∈ seg l a b, x.length = 32 := fun x hx => h x (List.mem_of_mem_take (List.mem_of_mem_drop hx))
/-- the root of the full tree of a level and an index -/
def tileN (l : List (List UInt8)) (a b : Nat) : Option (List UInt8) := if (b + 1) * 2 ^ a ≤ l.length then some (rootL (seg l (b * 2 ^ a) ((b + 1) * 2 ^ a))) else none
def tileZ (l : List (List UInt8)) (a b : Int) : Option (List UInt8) := if 0 ≤ a ∧ 0 ≤ b then tileN l a.toNat b.toNat else none
theorem tileZ_nat (l : List (List UInt8)) (a b : Nat) : tileZ l (a : Int) (b : Int) = tileN l a b := by
  unfold tileZ; rw [if_pos ⟨by omega, by omega⟩]; rfl
theorem tileN_zero (l : List (List UInt8)) (b : Nat) (h : b < l.length) : tileN l 0 b = some (l.getD b []) := by
  unfold tileN
  rw [if_pos (by omega)]
  have : seg l (b * 2 ^ 0) ((b + 1) * 2 ^ 0) = [l.getD b []] := by
    unfold seg
    rw [Nat.pow_zero, Nat.mul_one, Nat.mul_one, List.take_succ_eq_append_getElem h, List.drop_left' (by rw [List.length_take]; omega)]
    simp [List.getD_eq_getElem?_getD, h]
  rw [this, rootL_one]
/-- a root of twice as many -/
theorem rootL_two (l : List (List UInt8)) (k : Nat) (h : l.length = 2 ^ (k + 1)) : rootL l = nodeL (rootL (l.take (2 ^ k))) (rootL (l.drop (2 ^ k))) := by
  have hp : 0 < 2 ^ k := Nat.pow_pos (by omega)
  rw [Nat.pow_succ] at h
  rw [rootL_many l (by omega), splitN_eq k l.length (by omega) (by omega)]
/-- while a leaf x is put behind l: up to the level lv the new trees stand -/
def addG (l : List (List UInt8)) (x : List UInt8) (lv : Nat) (a b : Nat) : Option (List UInt8) := if a ≤ lv ∧ (b + 1) * 2 ^ a = l.length + 1 then tileN (l ++ [x]) a b else tileN l a b
theorem addG_zero (l : List (List UInt8)) (x : List UInt8) (a b : Nat) : addG l x 0 a b = if a = 0 ∧ b = l.length then some x else tileN l a b := by
  unfold addG
  by_cases h : a = 0 ∧ b = l.length
  · obtain ⟨rfl, rfl⟩ := h
    rw [if_pos ⟨by omega, by omega⟩, if_pos ⟨rfl, rfl⟩, tileN_zero _ _ (by simp)]
    simp [List.getD_eq_getElem?_getD]
  · rw [if_neg h, if_neg]
    rintro ⟨h1, h2⟩
    obtain rfl : a = 0 := by omega
    exact h ⟨rfl, by omega⟩
theorem addG_left (l : List (List UInt8)) (x : List UInt8) (lv i : Nat) (h : (i + 1) * 2 ^ lv = l.length + 1) (hi : i % 2 = 1) : addG l x lv lv (i - 1) = some (rootL (seg l ((i - 1) * 2 ^ lv) (i * 2 ^ lv))) := by
  have hp : 0 < 2 ^ lv := Nat.pow_pos (by omega)
  have e : i - 1 + 1 = i := by omega
  have e2 : (i + 1) * 2 ^ lv = i * 2 ^ lv + 2 ^ lv := by rw [Nat.add_mul, Nat.one_mul]
  unfold addG
  rw [e, if_neg (by rintro ⟨_, h2⟩; omega)]
  unfold tileN
  rw [e, if_pos (by omega)]
theorem addG_up (l : List (List UInt8)) (x : List UInt8) (lv i : Nat) (h : (i + 1) * 2 ^ lv = l.length + 1) (hi : i % 2 = 1) :
    (i / 2 + 1) * 2 ^ (lv + 1) = l.length + 1 ∧ nodeL (rootL (seg l ((i - 1) * 2 ^ lv) (i * 2 ^ lv))) (rootL (seg (l ++ [x]) (i * 2 ^ lv) ((i + 1) * 2 ^ lv))) = rootL (seg (l ++ [x]) (i / 2 * 2 ^ (lv + 1)) ((i / 2 + 1) * 2 ^ (lv + 1))) := by
  have hp : 0 < 2 ^ lv := Nat.pow_pos (by omega)
  obtain ⟨j, rfl⟩ : ∃ j, i = 2 * j + 1 := ⟨i / 2, by omega⟩
  have e : (2 * j + 1) / 2 = j := by omega
  have e1 : 2 * j + 1 - 1 = 2 * j := by omega
  rw [e, e1, Nat.pow_succ]
  have m1 : (j + 1) * (2 ^ lv * 2) = (2 * j + 1 + 1) * 2 ^ lv := by rw [Nat.mul_comm (2 ^ lv) 2, ← Nat.mul_assoc, show (j + 1) * 2 = 2 * j + 1 + 1 by omega]
  have m2 : j * (2 ^ lv * 2) = 2 * j * 2 ^ lv := by rw [Nat.mul_comm (2 ^ lv) 2, ← Nat.mul_assoc, Nat.mul_comm j 2]
  rw [m1, m2]
  refine ⟨h, ?_⟩
  have a1 : (2 * j + 1) * 2 ^ lv = 2 * j * 2 ^ lv + 2 ^ lv := by rw [Nat.add_mul, Nat.one_mul]
  have a2 : (2 * j + 1 + 1) * 2 ^ lv = 2 * j * 2 ^ lv + 2 ^ lv + 2 ^ lv := by rw [Nat.add_mul, Nat.one_mul, a1]
  rw [a1, a2]
  rw [a2] at h
  generalize 2 * j * 2 ^ lv = s at *
  rw [rootL_two (seg (l ++ [x]) s (s + 2 ^ lv + 2 ^ lv)) lv (by rw [seg_len _ _ _ (by simp; omega), Nat.pow_succ]; omega), seg_take _ _ _ _ (by omega), seg_drop, seg_app l [x] s (s + 2 ^ lv) (by omega)]
theorem addG_succ (l : List (List UInt8)) (x : List UInt8) (lv i : Nat) (h : (i + 1) * 2 ^ lv = l.length + 1) (hi : i % 2 = 1) (a b : Nat) :
    addG l x (lv + 1) a b = if a = lv + 1 ∧ b = i / 2 then some (rootL (seg (l ++ [x]) (i / 2 * 2 ^ (lv + 1)) ((i / 2 + 1) * 2 ^ (lv + 1)))) else addG l x lv a b := by
  obtain ⟨hu, _⟩ := addG_up l x lv i h hi
  have hp : 0 < 2 ^ (lv + 1) := Nat.pow_pos (by omega)
  by_cases hab : a = lv + 1 ∧ b = i / 2
  · obtain ⟨rfl, rfl⟩ := hab
    rw [if_pos ⟨rfl, rfl⟩]
    unfold addG tileN
    rw [if_pos ⟨Nat.le_refl _, hu⟩, if_pos (by rw [List.length_append]; simp; omega)]
  · rw [if_neg hab]
    unfold addG
    by_cases h1 : a ≤ lv ∧ (b + 1) * 2 ^ a = l.length + 1
    · rw [if_pos h1, if_pos ⟨by omega, h1.2⟩]
    · rw [if_neg h1, if_neg]
      rintro ⟨h2, h3⟩
      have : a = lv + 1 := by
        rcases Nat.lt_or_ge lv a with h4 | h4
        · omega
        · exact absurd ⟨h4, h3⟩ h1
      subst this
      refine hab ⟨rfl, ?_⟩
      have := Nat.eq_of_mul_eq_mul_right hp (h3.trans hu.symm)
      omega
theorem addG_end (l : List (List UInt8)) (x : List UInt8) (lv i : Nat) (h : (i + 1) * 2 ^ lv = l.length + 1) (hi : i % 2 = 0) (a b : Nat) : addG l x lv a b = tileN (l ++ [x]) a b := by
  unfold addG
  by_cases h1 : a ≤ lv ∧ (b + 1) * 2 ^ a = l.length + 1
  · rw [if_pos h1]
  · rw [if_neg h1]
    have hne : (b + 1) * 2 ^ a ≠ l.length + 1 := by
      intro h3
      rcases Nat.lt_or_ge lv a with h4 | h4
      · obtain ⟨d, rfl⟩ : ∃ d, a = lv + 1 + d := ⟨a - lv - 1, by omega⟩
        have e1 : (b + 1) * 2 ^ (lv + 1 + d) = ((b + 1) * 2 ^ d * 2) * 2 ^ lv := by
          rw [Nat.pow_add, Nat.pow_succ, Nat.mul_comm (2 ^ lv * 2), Nat.mul_comm (2 ^ lv) 2, ← Nat.mul_assoc, ← Nat.mul_assoc]
        rw [e1] at h3
        have := Nat.eq_of_mul_eq_mul_right (Nat.pow_pos (by omega)) (h3.trans h.symm)
        omega
      · exact h1 ⟨h4, h3⟩
    unfold tileN
    by_cases h2 : (b + 1) * 2 ^ a ≤ l.length
    · rw [if_pos h2, if_pos (by rw [List.length_append]; simp; omega), seg_app _ _ _ _ h2]
    · rw [if_neg h2, if_neg (by rw [List.length_append]; simp; omega)]
/-- a segment that begins where a full tree of its size would -/
def lined (a b : Nat) : Prop := ∃ J, b - a ≤ 2 ^ J ∧ 2 ^ J ∣ a
theorem lined_zero (n : Nat) : lined 0 n := by
  refine ⟨n, ?_, Nat.dvd_zero _⟩
  have : n < 2 ^ n := Nat.lt_two_pow_self
  omega
theorem lined_dvd {a b k : Nat} (h : lined a b) (hk : b - a ≤ 2 ^ k) (hm : ∀ j, j < k → 2 ^ j < b - a) : 2 ^ k ∣ a := by
  obtain ⟨J, h1, h2⟩ := h
  rcases Nat.lt_or_ge J k with h3 | h3
  · have := hm J h3; omega
  · exact Nat.dvd_trans (Nat.pow_dvd_pow 2 h3) h2
theorem lined_left {a b k : Nat} (h : lined a b) (h1 : 2 ^ k < b - a) (h2 : b - a ≤ 2 * 2 ^ k) : lined a (a + 2 ^ k) ∧ lined (a + 2 ^ k) b := by
  have hd : 2 ^ (k + 1) ∣ a := lined_dvd h (by rw [Nat.pow_succ]; omega) (fun j hj => by
    have := Nat.pow_le_pow_right (show 0 < 2 by omega) (show j ≤ k by omega); omega)
  have hd2 : 2 ^ k ∣ a := Nat.dvd_trans (Nat.pow_dvd_pow 2 (by omega)) hd
  exact ⟨⟨k, by omega, hd2⟩, ⟨k, by omega, Nat.dvd_add hd2 (Nat.dvd_refl _)⟩⟩
theorem lined_split {a b : Nat} (h : lined a b) (h2 : 2 ≤ b - a) : lined a (a + splitN (b - a)) ∧ lined (a + splitN (b - a)) b := by
  obtain ⟨J, e, h3, h4⟩ := split_pow (b - a) h2
  rw [e]
  exact lined_left h h3 h4
theorem seg_root (l : List (List UInt8)) (a b : Nat) (hb : b ≤ l.length) (h2 : 2 ≤ b - a) : rootL (seg l a b) = nodeL (rootL (seg l a (a + splitN (b - a)))) (rootL (seg l (a + splitN (b - a)) b)) := by
  obtain ⟨h3, h4⟩ := splitN_in (b - a) h2
  have hl := seg_len l a b hb
  rw [rootL_many _ (by omega), hl, seg_take _ _ _ _ (by omega), seg_drop]
theorem seg_full (l : List (List UInt8)) (a k : Nat) (hd : 2 ^ k ∣ a) (hb : a + 2 ^ k ≤ l.length) : tileN l k (a / 2 ^ k) = some (rootL (seg l a (a + 2 ^ k))) := by
  have hp : 0 < 2 ^ k := Nat.pow_pos (by omega)
  obtain ⟨q, rfl⟩ := hd
  unfold tileN
  rw [Nat.mul_div_cancel_left _ hp, Nat.add_mul, Nat.one_mul, Nat.mul_comm q, if_pos hb]
/-- the path among a segment's leaves -/
theorem seg_path (l : List (List UInt8)) (a b i : Nat) (hb : b ≤ l.length) (h2 : 2 ≤ b - a) (hi : a ≤ i) :
    pathL (seg l a b) (i - a) = if i < a + splitN (b - a) then pathL (seg l a (a + splitN (b - a))) (i - a) ++ [rootL (seg l (a + splitN (b - a)) b)] else pathL (seg l (a + splitN (b - a)) b) (i - (a + splitN (b - a))) ++ [rootL (seg l a (a + splitN (b - a)))] := by
  obtain ⟨h3, h4⟩ := splitN_in (b - a) h2
  have hl := seg_len l a b hb
  rw [path_many _ _ (by omega), hl, seg_take _ _ _ _ (by omega), seg_drop]
  by_cases h : i < a + splitN (b - a)
  · rw [if_pos h, if_pos (by omega)]
  · rw [if_neg h, if_neg (by omega), show i - a - splitN (b - a) = i - (a + splitN (b - a)) by omega]
/-- a sub-proof -/
def subF : Nat → List (List UInt8) → Nat → Bool → List (List UInt8)
  | 0, _, _, _ => []
  | f + 1, l, m, known => if m = l.length then (if known then [] else [rootL l]) else if m ≤ splitN l.length then subF f (l.take (splitN l.length)) m known ++ [rootL (l.drop (splitN l.length))] else subF f (l.drop (splitN l.length)) (m - splitN l.length) false ++ [rootL (l.take (splitN l.length))]
def subL (l : List (List UInt8)) (m : Nat) (known : Bool) : List (List UInt8) := subF l.length l m known
theorem subF_eq : ∀ (f g : Nat) (l : List (List UInt8)) (m : Nat) (known : Bool), 1 ≤ m → m ≤ l.length → l.length ≤ f → l.length ≤ g → subF f l m known = subF g l m known
  | 0, _, l, m, _, h1, h2, h, _ => by omega
  | f + 1, 0, l, m, _, h1, h2, _, h => by omega
  | f + 1, g + 1, l, m, known, h1, h2, hf, hg => by
    rw [subF, subF]
    by_cases h0 : m = l.length
    · rw [if_pos h0, if_pos h0]
    · obtain ⟨s1, s2⟩ := splitN_in l.length (by omega)
      rw [if_neg h0, if_neg h0]
      by_cases hk : m ≤ splitN l.length
      · rw [if_pos hk, if_pos hk, subF_eq f g (l.take _) m known h1 (by rw [List.length_take]; omega) (by rw [List.length_take]; omega) (by rw [List.length_take]; omega)]
      · rw [if_neg hk, if_neg hk, subF_eq f g (l.drop _) _ false (by omega) (by rw [List.length_drop]; omega) (by rw [List.length_drop]; omega) (by rw [List.length_drop]; omega)]
theorem sub_all (l : List (List UInt8)) (known : Bool) (h : 1 ≤ l.length) : subL l l.length known = if known then [] else [rootL l] := by
  unfold subL
  obtain ⟨f, hf⟩ : ∃ f, l.length = f + 1 := ⟨l.length - 1, by omega⟩
  conv => lhs; rw [hf, subF]
  rw [if_pos hf.symm]
theorem sub_many (l : List (List UInt8)) (m : Nat) (known : Bool) (h1 : 1 ≤ m) (h : m < l.length) : subL l m known = if m ≤ splitN l.length then subL (l.take (splitN l.length)) m known ++ [rootL (l.drop (splitN l.length))] else subL (l.drop (splitN l.length)) (m - splitN l.length) false ++ [rootL (l.take (splitN l.length))] := by
  obtain ⟨s1, s2⟩ := splitN_in l.length (by omega)
  unfold subL
  obtain ⟨f, hf⟩ : ∃ f, l.length = f + 1 := ⟨l.length - 1, by omega⟩
  conv => lhs; rw [hf, subF]
  rw [if_neg (by omega)]
  by_cases hk : m ≤ splitN l.length
  · rw [if_pos hk, if_pos hk, subF_eq f _ (l.take _) m known h1 (by rw [List.length_take]; omega) (by rw [List.length_take]; omega) (Nat.le_refl _)]
  · rw [if_neg hk, if_neg hk, subF_eq f _ (l.drop _) _ false (by omega) (by rw [List.length_drop]; omega) (by rw [List.length_drop]; omega) (Nat.le_refl _)]
theorem seg_sub (l : List (List UInt8)) (a b m : Nat) (known : Bool) (hb : b ≤ l.length) (h1 : a < m) (h2 : m < b) :
    subL (seg l a b) (m - a) known = if m ≤ a + splitN (b - a) then subL (seg l a (a + splitN (b - a))) (m - a) known ++ [rootL (seg l (a + splitN (b - a)) b)] else subL (seg l (a + splitN (b - a)) b) (m - (a + splitN (b - a))) false ++ [rootL (seg l a (a + splitN (b - a)))] := by
  obtain ⟨h3, h4⟩ := splitN_in (b - a) (by omega)
  have hl := seg_len l a b hb
  rw [sub_many _ _ _ (by omega) (by omega), hl, seg_take _ _ _ _ (by omega), seg_drop]
  by_cases h : m ≤ a + splitN (b - a)
  · rw [if_pos h, if_pos (by omega)]
  · rw [if_neg h, if_neg (by omega), show m - a - splitN (b - a) = m - (a + splitN (b - a)) by omega]
theorem sub_32 : ∀ (n : Nat) (l : List (List UInt8)) (m : Nat) (known : Bool), l.length ≤ n → 1 ≤ m → m ≤ l.length → (∀ x ∈ l, x.length = 32) → ∀ x ∈ subL l m known, x.length = 32
  | 0, l, m, _, h, h1, h2, _ => by omega
  | n + 1, l, m, known, h, h1, hm, h32 => by
    by_cases h0 : m = l.length
    · subst h0
      rw [sub_all l known h1]
      cases known
      · simpa using rootL_len _ l (Nat.le_refl _) h32
      · simp
    · obtain ⟨s1, s2⟩ := splitN_in l.length (by omega)
      rw [sub_many l m known h1 (by omega)]
      have ht : ∀ x ∈ l.take (splitN l.length), x.length = 32 := fun x hx => h32 x (List.mem_of_mem_take hx)
      have hd : ∀ x ∈ l.drop (splitN l.length), x.length = 32 := fun x hx => h32 x (List.mem_of_mem_drop hx)
      intro x hx
      split at hx
      · rcases List.mem_append.1 hx with h2 | h2
        · exact sub_32 n _ _ _ (by rw [List.length_take]; omega) h1 (by rw [List.length_take]; omega) ht x h2
        · rw [List.mem_singleton.1 h2]; exact rootL_len _ _ (Nat.le_refl _) hd
      · rcases List.mem_append.1 hx with h2 | h2
        · exact sub_32 n _ _ _ (by rw [List.length_drop]; omega) (by omega) (by rw [List.length_drop]; omega) hd x h2
        · rw [List.mem_singleton.1 h2]; exact rootL_len _ _ (Nat.le_refl _) ht
theorem sub_len : ∀ (J : Nat) (l : List (List UInt8)) (m : Nat) (known : Bool), 1 ≤ m → m ≤ l.length → l.length ≤ 2 ^ J → (subL l m known).length ≤ J + 1
  | 0, l, m, known, h1, hm, h => by
    have : m = l.length := by simp at h; omega
    subst this
    rw [sub_all l known h1]
    cases known <;> simp
  | J + 1, l, m, known, h1, hm, h => by
    by_cases h0 : m = l.length
    · subst h0
      rw [sub_all l known h1]
      cases known <;> simp
    · obtain ⟨s1, s2⟩ := splitN_in l.length (by omega)
      obtain ⟨K, e, a, b⟩ := split_pow l.length (by omega)
      have hK : 2 ^ K ≤ 2 ^ J := by
        rcases Nat.lt_or_ge J K with h2 | h2
        · have := pow_lt J K h2
          rw [Nat.pow_succ] at h; omega
        · exact Nat.pow_le_pow_right (by omega) h2
      rw [sub_many l m known h1 (by omega)]
      split
      · have := sub_len J (l.take (splitN l.length)) m known h1 (by rw [List.length_take]; omega) (by rw [List.length_take]; omega)
        rw [List.length_append, List.length_singleton]; omega
      · have := sub_len J (l.drop (splitN l.length)) (m - splitN l.length) false (by omega) (by rw [List.length_drop]; omega) (by rw [List.length_drop]; omega)
        rw [List.length_append, List.length_singleton]; omega
end Go.Proofs.YtbpjlancjdbehaaDoor
/- proofs, plain: what a proof of a beginning comes to, climbed from its first hash -/
namespace Go.Proofs.YtbpjlancjdbehaaDoor
open Go.Spec
def climb2 : List Bool → List (List UInt8) → List UInt8 → List UInt8 → List UInt8 × List UInt8
  | d :: ds, h :: p, a, b => if d then climb2 ds p (nodeL h a) (nodeL h b) else climb2 ds p a (nodeL b h)
  | _, _, a, b => (a, b)
theorem climb2_snoc (d : Bool) (h : List UInt8) : ∀ (ds : List Bool) (p : List (List UInt8)) (a b : List UInt8), p.length = ds.length →
    climb2 (ds ++ [d]) (p ++ [h]) a b = if d then (nodeL h (climb2 ds p a b).1, nodeL h (climb2 ds p a b).2) else ((climb2 ds p a b).1, nodeL (climb2 ds p a b).2 h)
  | [], [], a, b, _ => by cases d <;> rfl
  | e :: ds, y :: p, a, b, hl => by
    have ih := fun a b => climb2_snoc d h ds p a b (by simpa using hl)
    simp only [List.cons_append, climb2]
    cases e
    · simp only [Bool.false_eq_true, if_false]; exact ih _ _
    · simp only [if_true]; exact ih _ _
  | [], _ :: _, _, _, hl => by simp at hl
  | _ :: _, [], _, _, hl => by simp at hl
/-- while the first number is odd, both are halved -/
def stripF : Nat → Nat → Nat → Nat × Nat
  | 0, i, m => (i, m)
  | f + 1, i, m => if i % 2 = 1 then stripF f (i / 2) (m / 2) else (i, m)
def stripN (i m : Nat) : Nat × Nat := stripF i i m
theorem stripF_eq : ∀ (f g i m : Nat), i ≤ f → i ≤ g → stripF f i m = stripF g i m
  | 0, 0, _, _, _, _ => rfl
  | 0, g + 1, i, m, h, _ => by rw [stripF, stripF, if_neg (by omega)]
  | f + 1, 0, i, m, _, h => by rw [stripF, stripF, if_neg (by omega)]
  | f + 1, g + 1, i, m, hf, hg => by
    rw [stripF, stripF]
    by_cases h : i % 2 = 1
    · rw [if_pos h, if_pos h, stripF_eq f g (i / 2) (m / 2) (by omega) (by omega)]
    · rw [if_neg h, if_neg h]
theorem strip_odd (i m : Nat) (h : i % 2 = 1) : stripN i m = stripN (i / 2) (m / 2) := by
  unfold stripN
  obtain ⟨f, rfl⟩ : ∃ f, i = f + 1 := ⟨i - 1, by omega⟩
  conv => lhs; rw [stripF, if_pos h]
  exact stripF_eq f _ _ _ (by omega) (Nat.le_refl _)
theorem strip_even (i m : Nat) (h : i % 2 = 0) : stripN i m = (i, m) := by
  unfold stripN
  cases i with
  | zero => rfl
  | succ f => rw [stripF, if_neg (by omega)]
theorem strip_le : ∀ (n i m : Nat), i ≤ n → i ≤ m → (stripN i m).1 ≤ i ∧ (stripN i m).2 ≤ m ∧ (stripN i m).1 ≤ (stripN i m).2 ∧ (i < m → (stripN i m).1 < (stripN i m).2)
  | 0, i, m, h, hm => by
    rw [strip_even i m (by omega)]; exact ⟨Nat.le_refl _, Nat.le_refl _, hm, id⟩
  | n + 1, i, m, h, hm => by
    by_cases ho : i % 2 = 1
    · rw [strip_odd i m ho]
      obtain ⟨a, b, c, d⟩ := strip_le n (i / 2) (m / 2) (by omega) (by omega)
      exact ⟨by omega, by omega, c, fun h => d (by omega)⟩
    · rw [strip_even i m (by omega)]; exact ⟨Nat.le_refl _, Nat.le_refl _, hm, id⟩
/-- on which sides the hashes of a proof stand -/
def conD (m n : Nat) : List Bool := dirD (stripN (m - 1) (n - 1)).1 (stripN (m - 1) (n - 1)).2
def conI (m n : Nat) : Nat := (stripN (m - 1) (n - 1)).1
theorem con_low : ∀ (J i m : Nat), i < 2 ^ J → 2 ^ J ≤ m → m < 2 ^ (J + 1) → dirD (stripN i m).1 (stripN i m).2 = dirD (stripN i (2 ^ J - 1)).1 (stripN i (2 ^ J - 1)).2 ++ [false] ∧ (stripN i m).1 = (stripN i (2 ^ J - 1)).1
  | 0, i, m, h1, h2, h3 => by
    have : i = 0 := by simpa using h1
    subst i
    rw [strip_even 0 m rfl, strip_even 0 _ rfl]
    exact ⟨dir_low 0 0 m h1 h2 h3, rfl⟩
  | J + 1, i, m, h1, h2, h3 => by
    by_cases ho : i % 2 = 1
    · have e : (2 ^ (J + 1) - 1) / 2 = 2 ^ J - 1 := by rw [Nat.pow_succ]; omega
      rw [strip_odd i m ho, strip_odd i _ ho, e]
      rw [Nat.pow_succ] at h1 h2
      rw [Nat.pow_succ] at h3
      exact con_low J (i / 2) (m / 2) (by omega) (by omega) (by omega)
    · rw [strip_even i m (by omega), strip_even i _ (by omega)]
      exact ⟨dir_low (J + 1) i m h1 h2 h3, rfl⟩
theorem con_high : ∀ (J i m : Nat), i < m → m < 2 ^ J → dirD (stripN (2 ^ J + i) (2 ^ J + m)).1 (stripN (2 ^ J + i) (2 ^ J + m)).2 = dirD (stripN i m).1 (stripN i m).2 ++ [true] ∧ (stripN (2 ^ J + i) (2 ^ J + m)).1 ≠ 0
  | 0, i, m, h1, h2 => by simp at h2; omega
  | J + 1, i, m, h1, h2 => by
    have hp : 0 < 2 ^ J := Nat.pow_pos (by omega)
    by_cases ho : i % 2 = 1
    · rw [Nat.pow_succ] at h2 ⊢
      rw [strip_odd (2 ^ J * 2 + i) _ (by omega), strip_odd i m ho]
      have e1 : (2 ^ J * 2 + i) / 2 = 2 ^ J + i / 2 := by omega
      have e2 : (2 ^ J * 2 + m) / 2 = 2 ^ J + m / 2 := by omega
      rw [e1, e2]
      exact con_high J (i / 2) (m / 2) (by omega) (by omega)
    · have hd := dir_high (J + 1) i m (by omega) h2
      rw [Nat.pow_succ] at hd ⊢
      rw [strip_even (2 ^ J * 2 + i) _ (by omega), strip_even i m (by omega)]
      refine ⟨hd, ?_⟩
      show 2 ^ J * 2 + i ≠ 0
      omega
theorem strip_pow : ∀ (J : Nat), stripN (2 ^ J - 1) (2 ^ J - 1) = (0, 0)
  | 0 => rfl
  | J + 1 => by
    have hp : 0 < 2 ^ J := Nat.pow_pos (by omega)
    have e : (2 ^ (J + 1) - 1) / 2 = 2 ^ J - 1 := by rw [Nat.pow_succ]; omega
    rw [strip_odd _ _ (by rw [Nat.pow_succ]; omega), e]
    exact strip_pow J
theorem con_all : ∀ (n : Nat) (l : List (List UInt8)) (m : Nat), l.length ≤ n → 1 ≤ m → m ≤ l.length → (m = l.length → ∃ J, m = 2 ^ J) →
    ∃ h rest, subL l m false = h :: rest ∧ subL l m true = (if conI m l.length = 0 then rest else h :: rest) ∧ rest.length = (conD m l.length).length ∧ climb2 (conD m l.length) rest h h = (rootL (l.take m), rootL l) ∧ (conI m l.length = 0 → h = rootL (l.take m))
  | 0, l, m, h, h1, h2, _ => by omega
  | n + 1, l, m, h, h1, h2, hp => by
    by_cases h0 : m = l.length
    · obtain ⟨J, hJ⟩ := hp h0
      refine ⟨rootL l, [], ?_, ?_, ?_, ?_, ?_⟩
      · rw [h0, sub_all l false (by omega)]; rfl
      · have : conI m l.length = 0 := by unfold conI; rw [← h0, hJ, strip_pow]
        rw [if_pos this, h0, sub_all l true (by omega)]; rfl
      · unfold conD; rw [← h0, hJ, strip_pow]; rfl
      · unfold conD; rw [← h0, hJ, strip_pow]
        rw [← hJ, h0, List.take_length]; rfl
      · intro _; rw [h0, List.take_length]
    · obtain ⟨s1, s2⟩ := splitN_in l.length (by omega)
      obtain ⟨J, e, a, b⟩ := split_pow l.length (by omega)
      by_cases hk : m ≤ splitN l.length
      · have hlen : (l.take (splitN l.length)).length = splitN l.length := by rw [List.length_take]; omega
        obtain ⟨x, rest, r1, r2, r3, r4, r5⟩ := con_all n (l.take (splitN l.length)) m (by omega) h1 (by omega) (fun hm => ⟨J, by rw [hm, hlen, e]⟩)
        rw [hlen] at r2 r3 r4 r5
        have hcl := con_low J (m - 1) (l.length - 1) (by omega) (by omega) (by rw [Nat.pow_succ]; omega)
        have hD : conD m l.length = conD m (splitN l.length) ++ [false] := by unfold conD; rw [e]; exact hcl.1
        have hI : conI m l.length = conI m (splitN l.length) := by unfold conI; rw [e]; exact hcl.2
        have hT : (l.take (splitN l.length)).take m = l.take m := by rw [List.take_take, Nat.min_eq_left hk]
        rw [hT] at r4 r5
        refine ⟨x, rest ++ [rootL (l.drop (splitN l.length))], ?_, ?_, ?_, ?_, ?_⟩
        · rw [sub_many l m false h1 (by omega), if_pos hk, r1]; rfl
        · rw [sub_many l m true h1 (by omega), if_pos hk, r2, hI]
          split <;> rfl
        · rw [hD]; simp [r3]
        · rw [hD, climb2_snoc _ _ _ _ _ _ r3, r4, rootL_many l (by omega)]; rfl
        · rw [hI]; exact r5
      · have hlen : (l.drop (splitN l.length)).length = l.length - splitN l.length := by rw [List.length_drop]
        obtain ⟨x, rest, r1, _, r3, r4, _⟩ := con_all n (l.drop (splitN l.length)) (m - splitN l.length) (by omega) (by omega) (by omega) (fun hm => by omega)
        rw [hlen] at r3 r4
        have hch := con_high J (m - splitN l.length - 1) (l.length - splitN l.length - 1) (by omega) (by omega)
        rw [show 2 ^ J + (m - splitN l.length - 1) = m - 1 by omega, show 2 ^ J + (l.length - splitN l.length - 1) = l.length - 1 by omega] at hch
        have hD : conD m l.length = conD (m - splitN l.length) (l.length - splitN l.length) ++ [true] := hch.1
        have hI : conI m l.length ≠ 0 := hch.2
        have hm2 : rootL (l.take m) = nodeL (rootL (l.take (splitN l.length))) (rootL ((l.drop (splitN l.length)).take (m - splitN l.length))) := by
          have hml : (l.take m).length = m := by rw [List.length_take]; omega
          have hsm : splitN m = splitN l.length := by rw [e]; exact splitN_eq J m (by omega) (by omega)
          rw [rootL_many (l.take m) (by omega), hml, hsm, List.take_take, Nat.min_eq_left (by omega), List.drop_take]
        refine ⟨x, rest ++ [rootL (l.take (splitN l.length))], ?_, ?_, ?_, ?_, fun h => absurd h hI⟩
        · rw [sub_many l m false h1 (by omega), if_neg hk, r1]; rfl
        · rw [if_neg hI, sub_many l m true h1 (by omega), if_neg hk, r1]; rfl
        · rw [hD]; simp [r3]
        · rw [hD, climb2_snoc _ _ _ _ _ _ r3, r4, hm2, rootL_many l (by omega)]; rfl
end Go.Proofs.YtbpjlancjdbehaaDoor
/- trees.Node, speculumref04.Node -/
namespace Go.Proofs.YtbpjlancjdbehaaDoor
open Go.RowKit Go.Spec
set_option maxHeartbeats 2000000 in
theorem node_any (a b : List UInt8) (w : World) (ha : a.length = 32) (hb : b.length = 32) (hG : ShaG w) :
    Calls Tryd.prog 40 #[hv a, hv b] w fun e w' => e = .returned (hv (nodeL a b)) ∧ Below w.heap.size w w' := by
  have HG := hid hG; clear hG
  have HA := hid ha; have HBb := hid hb; clear ha hb
  have W0 := hid (show ((w.alloc (.cells (hc a) 29)).alloc (.cells (hc b) 29)).heap.size = w.heap.size + 1 + 1 by simp)
  have HB : Below w.heap.size w (((w.alloc (.cells (hc a) 29)).alloc (.cells (hc b) 29)).alloc (.cells (hc zero32) 29)) := (((Below.refl _ w).alloc (Nat.le_refl _) _).alloc (by simp) _).alloc (by simp; omega) _
  have hA : Blk (((w.alloc (.cells (hc a) 29)).alloc (.cells (hc b) 29)).alloc (.cells (hc zero32) 29)) w.heap.size (hc a) 29 := ((Blk.new w _ _).alloc _).alloc _
  have hB : Blk (((w.alloc (.cells (hc a) 29)).alloc (.cells (hc b) 29)).alloc (.cells (hc zero32) 29)) (w.heap.size + 1) (hc b) 29 := (Blk.new' _ _ _ (by simp)).alloc _
  have hZ : Blk (((w.alloc (.cells (hc a) 29)).alloc (.cells (hc b) 29)).alloc (.cells (hc zero32) 29)) (w.heap.size + 1 + 1) (hc zero32) 29 := Blk.new' _ _ _ (by simp)
  have Hsa := hid (show (Tryd.prog.info? 29).map (·.size) = some (hc a).size by rw [hc_size, HA.out]; exact Tryd.sizeHash)
  have Hsb := hid (show (Tryd.prog.info? 29).map (·.size) = some (hc b).size by rw [hc_size, HBb.out]; exact Tryd.sizeHash)
  have Hs := hid (show (Tryd.prog.info? 29).map (·.size) = some (hc (nodeL a b)).size by rw [hc_size, nodeL_len]; exact Tryd.sizeHash)
  have Hl := hid (show (hc (nodeL a b)).size = (hc zero32).size by rw [hc_size, nodeL_len]; rfl)
  have HS : ∀ w0, ShaG w0 → Calls Tryd.prog 49 #[sv (1 :: (a ++ b))] w0 fun e w' => e = .returned (hv (nodeL a b)) ∧ Below w0.heap.size w0 w' := fun w0 h0 => sum_any (1 :: (a ++ b)) w0 (by simp [HA.out, HBb.out]) h0
  have HS := hid HS
  have la : a.length ≤ 32 := by rw [HA.out]; exact Nat.le_refl _
  have lb : b.length ≤ 32 := by rw [HBb.out]; exact Nat.le_refl _
  go_enter Tryd.func40, Tryd.ntmps40
  go_wp2_with fail
  refine wp_region_anyw (by kernel_rfl) ?_
  intro w0 he0 hb0
  replace HB := bth HB hb0
  replace hA := hA.heap (w' := w0) he0
  replace hB := hB.heap (w' := w0) he0
  replace hZ := hZ.heap (w' := w0) he0
  show wpAny _ _ _ _ 8 (Array.replicate 8 false) _ _
  refine wpAny_all (rs := [0, 3]) (by kernel_rfl) (by simp) ?_
  intro i hi
  have hi2 : i = 0 ∨ i = 3 := by simpa using hi
  clear hi
  rcases hi2 with rfl | rfl
  · refine wpOp_list rfl ?_
    refine wpList_load_blk rfl 29 _ rfl w.heap.size rfl _ (hc a) _ hA Tryd.underlying29 rfl Hsa.out ?_
    refine wpList_nil ?_
    refine wpAny_all (rs := [1, 3]) (by kernel_rfl) (by simp) ?_
    intro i hi
    have hi2 : i = 1 ∨ i = 3 := by simpa using hi
    clear hi
    rcases hi2 with rfl | rfl
    · refine wpOp_list rfl ?_
      go_wp2_with (go_at_call 65; refine (hash_any a _ HA.out).mono ?_; rintro e w1 ⟨rfl, hb1⟩)
      replace HB := bth HB hb1
      replace hA := hA.later hb1
      replace hB := hB.later hb1
      replace hZ := hZ.later hb1
      refine wpAny_take (i := 2) (v := sv (1 :: a)) rfl (by kernel_rfl) (by kernel_rfl) (by kernel_rfl) (fun _ _ _ h => h) (Or.inl ⟨by rfl, ?_⟩) ?_
      · intro w; go_simp
        try omega
      refine wpAny_forced (i := 3) (by kernel_rfl) rfl ?_
      refine wpList_load_blk rfl 29 _ rfl (w.heap.size + 1) rfl _ (hc b) _ hB Tryd.underlying29 rfl Hsb.out ?_
      refine wpList_nil ?_
      refine wpAny_forced (i := 4) (by kernel_rfl) rfl ?_
      go_wp2_with (go_at_call 65; refine (hash_any b _ HBb.out).mono ?_; rintro e w2 ⟨rfl, hb2⟩)
      replace HB := bth HB hb2
      replace hZ := hZ.later hb2
      refine wpAny_forced (i := 5) (by kernel_rfl) rfl ?_
      go_wp2_with fail
      refine wpAny_forced (i := 6) (by kernel_rfl) rfl ?_
      go_wp2_with (go_at_call 49; refine (HS.out _ (HG.out.later HB)).mono ?_; rintro e w3 ⟨rfl, hb3⟩)
      replace HB := bth HB hb3
      replace hZ := hZ.later hb3
      refine wpAny_forced (i := 7) (by kernel_rfl) rfl ?_
      refine wpList_store_blk rfl 29 _ _ rfl (w.heap.size + 1 + 1) rfl (hc (nodeL a b)) rfl _ _ hZ Hl.out Hs.out (hc_row_one _) ?_
      refine wpList_nil ?_
      refine wpAny_done (by kernel_rfl) ?_ _
      go_wp2
      refine bodyPost_ret (results_cell_row rfl _ _ (w.heap.size + 1 + 1) 29 _ (0, 0) _ rfl (hZ.setRow) Tryd.underlying29 rfl Hs.out) rfl ⟨rfl, ?_⟩
      exact HB.setRow (by omega) _
    · refine wpOp_list rfl ?_
      refine wpList_load_blk rfl 29 _ rfl (w.heap.size + 1) rfl _ (hc b) _ hB Tryd.underlying29 rfl Hsb.out ?_
      refine wpList_nil ?_
      refine wpAny_forced (i := 1) (by kernel_rfl) rfl ?_
      go_wp2_with (go_at_call 65; refine (hash_any a _ HA.out).mono ?_; rintro e w1 ⟨rfl, hb1⟩)
      replace HB := bth HB hb1
      replace hA := hA.later hb1
      replace hB := hB.later hb1
      replace hZ := hZ.later hb1
      refine wpAny_take (i := 2) (v := sv (1 :: a)) rfl (by kernel_rfl) (by kernel_rfl) (by kernel_rfl) (fun _ _ _ h => h) (Or.inl ⟨by rfl, ?_⟩) ?_
      · intro w; go_simp
        try omega
      refine wpAny_forced (i := 4) (by kernel_rfl) rfl ?_
      go_wp2_with (go_at_call 65; refine (hash_any b _ HBb.out).mono ?_; rintro e w2 ⟨rfl, hb2⟩)
      replace HB := bth HB hb2
      replace hZ := hZ.later hb2
      refine wpAny_forced (i := 5) (by kernel_rfl) rfl ?_
      go_wp2_with fail
      refine wpAny_forced (i := 6) (by kernel_rfl) rfl ?_
      go_wp2_with (go_at_call 49; refine (HS.out _ (HG.out.later HB)).mono ?_; rintro e w3 ⟨rfl, hb3⟩)
      replace HB := bth HB hb3
      replace hZ := hZ.later hb3
      refine wpAny_forced (i := 7) (by kernel_rfl) rfl ?_
      refine wpList_store_blk rfl 29 _ _ rfl (w.heap.size + 1 + 1) rfl (hc (nodeL a b)) rfl _ _ hZ Hl.out Hs.out (hc_row_one _) ?_
      refine wpList_nil ?_
      refine wpAny_done (by kernel_rfl) ?_ _
      go_wp2
      refine bodyPost_ret (results_cell_row rfl _ _ (w.heap.size + 1 + 1) 29 _ (0, 0) _ rfl (hZ.setRow) Tryd.underlying29 rfl Hs.out) rfl ⟨rfl, ?_⟩
      exact HB.setRow (by omega) _
  · refine wpOp_list rfl ?_
    refine wpList_load_blk rfl 29 _ rfl (w.heap.size + 1) rfl _ (hc b) _ hB Tryd.underlying29 rfl Hsb.out ?_
    refine wpList_nil ?_
    refine wpAny_forced (i := 0) (by kernel_rfl) rfl ?_
    refine wpList_load_blk rfl 29 _ rfl w.heap.size rfl _ (hc a) _ hA Tryd.underlying29 rfl Hsa.out ?_
    refine wpList_nil ?_
    refine wpAny_forced (i := 1) (by kernel_rfl) rfl ?_
    go_wp2_with (go_at_call 65; refine (hash_any a _ HA.out).mono ?_; rintro e w1 ⟨rfl, hb1⟩)
    replace HB := bth HB hb1
    replace hA := hA.later hb1
    replace hB := hB.later hb1
    replace hZ := hZ.later hb1
    refine wpAny_take (i := 2) (v := sv (1 :: a)) rfl (by kernel_rfl) (by kernel_rfl) (by kernel_rfl) (fun _ _ _ h => h) (Or.inl ⟨by rfl, ?_⟩) ?_
    · intro w; go_simp
      try omega
    refine wpAny_forced (i := 4) (by kernel_rfl) rfl ?_
    go_wp2_with (go_at_call 65; refine (hash_any b _ HBb.out).mono ?_; rintro e w2 ⟨rfl, hb2⟩)
    replace HB := bth HB hb2
    replace hZ := hZ.later hb2
    refine wpAny_forced (i := 5) (by kernel_rfl) rfl ?_
    go_wp2_with fail
    refine wpAny_forced (i := 6) (by kernel_rfl) rfl ?_
    go_wp2_with (go_at_call 49; refine (HS.out _ (HG.out.later HB)).mono ?_; rintro e w3 ⟨rfl, hb3⟩)
    replace HB := bth HB hb3
    replace hZ := hZ.later hb3
    refine wpAny_forced (i := 7) (by kernel_rfl) rfl ?_
    refine wpList_store_blk rfl 29 _ _ rfl (w.heap.size + 1 + 1) rfl (hc (nodeL a b)) rfl _ _ hZ Hl.out Hs.out (hc_row_one _) ?_
    refine wpList_nil ?_
    refine wpAny_done (by kernel_rfl) ?_ _
    go_wp2
    refine bodyPost_ret (results_cell_row rfl _ _ (w.heap.size + 1 + 1) 29 _ (0, 0) _ rfl (hZ.setRow) Tryd.underlying29 rfl Hs.out) rfl ⟨rfl, ?_⟩
    exact HB.setRow (by omega) _
set_option maxHeartbeats 2000000 in
theorem rnode_any (a b : List UInt8) (w : World) (ha : a.length = 32) (hb : b.length = 32) :
    Calls Tryd.prog 68 #[hv a, hv b] w fun e w' => e = .returned (hv (nodeL a b)) ∧ Below w.heap.size w w' := by
  have HA := hid ha; have HBb := hid hb; clear ha hb
  have W0 := hid (show ((w.alloc (.cells (hc a) 29)).alloc (.cells (hc b) 29)).heap.size = w.heap.size + 1 + 1 by simp)
  have HB : Below w.heap.size w (((w.alloc (.cells (hc a) 29)).alloc (.cells (hc b) 29)).alloc (.cells (hc zero32) 29)) := (((Below.refl _ w).alloc (Nat.le_refl _) _).alloc (by simp) _).alloc (by simp; omega) _
  have hA : Blk (((w.alloc (.cells (hc a) 29)).alloc (.cells (hc b) 29)).alloc (.cells (hc zero32) 29)) w.heap.size (hc a) 29 := ((Blk.new w _ _).alloc _).alloc _
  have hB : Blk (((w.alloc (.cells (hc a) 29)).alloc (.cells (hc b) 29)).alloc (.cells (hc zero32) 29)) (w.heap.size + 1) (hc b) 29 := (Blk.new' _ _ _ (by simp)).alloc _
  have hZ : Blk (((w.alloc (.cells (hc a) 29)).alloc (.cells (hc b) 29)).alloc (.cells (hc zero32) 29)) (w.heap.size + 1 + 1) (hc zero32) 29 := Blk.new' _ _ _ (by simp)
  have Hsa := hid (show (Tryd.prog.info? 29).map (·.size) = some (hc a).size by rw [hc_size, HA.out]; exact Tryd.sizeHash)
  have Hsb := hid (show (Tryd.prog.info? 29).map (·.size) = some (hc b).size by rw [hc_size, HBb.out]; exact Tryd.sizeHash)
  have Hs := hid (show (Tryd.prog.info? 29).map (·.size) = some (hc (nodeL a b)).size by rw [hc_size, nodeL_len]; exact Tryd.sizeHash)
  have Hl := hid (show (hc (nodeL a b)).size = (hc zero32).size by rw [hc_size, nodeL_len]; rfl)
  have HS : ∀ w0, Calls Tryd.prog 66 #[sv (1 :: (a ++ b))] w0 fun e w' => e = .returned (hv (nodeL a b)) ∧ Below w0.heap.size w0 w' := fun w0 => rsum_any (1 :: (a ++ b)) w0 (by simp [HA.out, HBb.out])
  have HS := hid HS
  have la : a.length ≤ 32 := by rw [HA.out]; exact Nat.le_refl _
  have lb : b.length ≤ 32 := by rw [HBb.out]; exact Nat.le_refl _
  go_enter Tryd.func68, Tryd.ntmps68
  go_wp2_with fail
  refine wp_region_anyw (by kernel_rfl) ?_
  intro w0 he0 hb0
  replace HB := bth HB hb0
  replace hA := hA.heap (w' := w0) he0
  replace hB := hB.heap (w' := w0) he0
  replace hZ := hZ.heap (w' := w0) he0
  show wpAny _ _ _ _ 8 (Array.replicate 8 false) _ _
  refine wpAny_all (rs := [0, 3]) (by kernel_rfl) (by simp) ?_
  intro i hi
  have hi2 : i = 0 ∨ i = 3 := by simpa using hi
  clear hi
  rcases hi2 with rfl | rfl
  · refine wpOp_list rfl ?_
    refine wpList_load_blk rfl 29 _ rfl w.heap.size rfl _ (hc a) _ hA Tryd.underlying29 rfl Hsa.out ?_
    refine wpList_nil ?_
    refine wpAny_all (rs := [1, 3]) (by kernel_rfl) (by simp) ?_
    intro i hi
    have hi2 : i = 1 ∨ i = 3 := by simpa using hi
    clear hi
    rcases hi2 with rfl | rfl
    · refine wpOp_list rfl ?_
      go_wp2_with (go_at_call 93; refine (rhash_any a _ HA.out).mono ?_; rintro e w1 ⟨rfl, hb1⟩)
      replace HB := bth HB hb1
      replace hA := hA.later hb1
      replace hB := hB.later hb1
      replace hZ := hZ.later hb1
      refine wpAny_take (i := 2) (v := sv (1 :: a)) rfl (by kernel_rfl) (by kernel_rfl) (by kernel_rfl) (fun _ _ _ h => h) (Or.inl ⟨by rfl, ?_⟩) ?_
      · intro w; go_simp
        try omega
      refine wpAny_forced (i := 3) (by kernel_rfl) rfl ?_
      refine wpList_load_blk rfl 29 _ rfl (w.heap.size + 1) rfl _ (hc b) _ hB Tryd.underlying29 rfl Hsb.out ?_
      refine wpList_nil ?_
      refine wpAny_forced (i := 4) (by kernel_rfl) rfl ?_
      go_wp2_with (go_at_call 93; refine (rhash_any b _ HBb.out).mono ?_; rintro e w2 ⟨rfl, hb2⟩)
      replace HB := bth HB hb2
      replace hZ := hZ.later hb2
      refine wpAny_forced (i := 5) (by kernel_rfl) rfl ?_
      go_wp2_with fail
      refine wpAny_forced (i := 6) (by kernel_rfl) rfl ?_
      go_wp2_with (go_at_call 66; refine (HS.out _).mono ?_; rintro e w3 ⟨rfl, hb3⟩)
      replace HB := bth HB hb3
      replace hZ := hZ.later hb3
      refine wpAny_forced (i := 7) (by kernel_rfl) rfl ?_
      refine wpList_store_blk rfl 29 _ _ rfl (w.heap.size + 1 + 1) rfl (hc (nodeL a b)) rfl _ _ hZ Hl.out Hs.out (hc_row_one _) ?_
      refine wpList_nil ?_
      refine wpAny_done (by kernel_rfl) ?_ _
      go_wp2
      refine bodyPost_ret (results_cell_row rfl _ _ (w.heap.size + 1 + 1) 29 _ (0, 0) _ rfl (hZ.setRow) Tryd.underlying29 rfl Hs.out) rfl ⟨rfl, ?_⟩
      exact HB.setRow (by omega) _
    · refine wpOp_list rfl ?_
      refine wpList_load_blk rfl 29 _ rfl (w.heap.size + 1) rfl _ (hc b) _ hB Tryd.underlying29 rfl Hsb.out ?_
      refine wpList_nil ?_
      refine wpAny_forced (i := 1) (by kernel_rfl) rfl ?_
      go_wp2_with (go_at_call 93; refine (rhash_any a _ HA.out).mono ?_; rintro e w1 ⟨rfl, hb1⟩)
      replace HB := bth HB hb1
      replace hA := hA.later hb1
      replace hB := hB.later hb1
      replace hZ := hZ.later hb1
      refine wpAny_take (i := 2) (v := sv (1 :: a)) rfl (by kernel_rfl) (by kernel_rfl) (by kernel_rfl) (fun _ _ _ h => h) (Or.inl ⟨by rfl, ?_⟩) ?_
      · intro w; go_simp
        try omega
      refine wpAny_forced (i := 4) (by kernel_rfl) rfl ?_
      go_wp2_with (go_at_call 93; refine (rhash_any b _ HBb.out).mono ?_; rintro e w2 ⟨rfl, hb2⟩)
      replace HB := bth HB hb2
      replace hZ := hZ.later hb2
      refine wpAny_forced (i := 5) (by kernel_rfl) rfl ?_
      go_wp2_with fail
      refine wpAny_forced (i := 6) (by kernel_rfl) rfl ?_
      go_wp2_with (go_at_call 66; refine (HS.out _).mono ?_; rintro e w3 ⟨rfl, hb3⟩)
      replace HB := bth HB hb3
      replace hZ := hZ.later hb3
      refine wpAny_forced (i := 7) (by kernel_rfl) rfl ?_
      refine wpList_store_blk rfl 29 _ _ rfl (w.heap.size + 1 + 1) rfl (hc (nodeL a b)) rfl _ _ hZ Hl.out Hs.out (hc_row_one _) ?_
      refine wpList_nil ?_
      refine wpAny_done (by kernel_rfl) ?_ _
      go_wp2
      refine bodyPost_ret (results_cell_row rfl _ _ (w.heap.size + 1 + 1) 29 _ (0, 0) _ rfl (hZ.setRow) Tryd.underlying29 rfl Hs.out) rfl ⟨rfl, ?_⟩
      exact HB.setRow (by omega) _
  · refine wpOp_list rfl ?_
    refine wpList_load_blk rfl 29 _ rfl (w.heap.size + 1) rfl _ (hc b) _ hB Tryd.underlying29 rfl Hsb.out ?_
    refine wpList_nil ?_
    refine wpAny_forced (i := 0) (by kernel_rfl) rfl ?_
    refine wpList_load_blk rfl 29 _ rfl w.heap.size rfl _ (hc a) _ hA Tryd.underlying29 rfl Hsa.out ?_
    refine wpList_nil ?_
    refine wpAny_forced (i := 1) (by kernel_rfl) rfl ?_
    go_wp2_with (go_at_call 93; refine (rhash_any a _ HA.out).mono ?_; rintro e w1 ⟨rfl, hb1⟩)
    replace HB := bth HB hb1
    replace hA := hA.later hb1
    replace hB := hB.later hb1
    replace hZ := hZ.later hb1
    refine wpAny_take (i := 2) (v := sv (1 :: a)) rfl (by kernel_rfl) (by kernel_rfl) (by kernel_rfl) (fun _ _ _ h => h) (Or.inl ⟨by rfl, ?_⟩) ?_
    · intro w; go_simp
      try omega
    refine wpAny_forced (i := 4) (by kernel_rfl) rfl ?_
    go_wp2_with (go_at_call 93; refine (rhash_any b _ HBb.out).mono ?_; rintro e w2 ⟨rfl, hb2⟩)
    replace HB := bth HB hb2
    replace hZ := hZ.later hb2
    refine wpAny_forced (i := 5) (by kernel_rfl) rfl ?_
    go_wp2_with fail
    refine wpAny_forced (i := 6) (by kernel_rfl) rfl ?_
    go_wp2_with (go_at_call 66; refine (HS.out _).mono ?_; rintro e w3 ⟨rfl, hb3⟩)
    replace HB := bth HB hb3
    replace hZ := hZ.later hb3
    refine wpAny_forced (i := 7) (by kernel_rfl) rfl ?_
    refine wpList_store_blk rfl 29 _ _ rfl (w.heap.size + 1 + 1) rfl (hc (nodeL a b)) rfl _ _ hZ Hl.out Hs.out (hc_row_one _) ?_
    refine wpList_nil ?_
    refine wpAny_done (by kernel_rfl) ?_ _
    go_wp2
    refine bodyPost_ret (results_cell_row rfl _ _ (w.heap.size + 1 + 1) 29 _ (0, 0) _ rfl (hZ.setRow) Tryd.underlying29 rfl Hs.out) rfl ⟨rfl, ?_⟩
    exact HB.setRow (by omega) _
end Go.Proofs.YtbpjlancjdbehaaDoor
