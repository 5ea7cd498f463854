/- Requests as bytes: plain laws -/
import Derived.Test.YtjpnlnbpaecciaaQGKnown

set_option maxRecDepth 100000
namespace Go.Proofs.Ytjpnlnbpaecciaa
open Go.RowKit Go.Spec
/-- a request -/
structure Rq where
  id : Int
  kind : Int
  fr : Int
  count : Int
  size : Int
def Rq.cs (r : Rq) : Array Value := #[.int .i64 r.id, .int .i64 r.kind, .int .i64 r.fr, .int .i64 r.count, .int .i64 r.size]
abbrev Rq.v (r : Rq) : Value := .agg r.cs
/-- its numbers that its kind has -/
def Rq.more (r : Rq) : List Int := if r.kind = 2 then [r.fr, r.count, r.size] else if r.kind = 3 ∨ r.kind = 4 then [r.fr, r.size] else []
def Rq.nums (r : Rq) : List Int := r.id :: r.kind :: r.more
def goodZ (n : Int) : Bool := decide (0 ≤ n) && decide (n ≤ 1073741824)
def numsT (l : List Int) : List UInt8 := (l.map fun n => numL n.toNat).flatten
def kindB (k : Int) : Bool := decide (1 ≤ k) && decide (k ≤ 5)
def putRq (r : Rq) : Option (List UInt8) := if kindB r.kind && r.nums.all goodZ then some (81 :: numsT r.nums) else none
/-- a reader: what is left, and whether all went well -/
abbrev Rds := List UInt8 × Bool
def nuB (x : Rds) (most : Nat) : Bool := x.2 && rdB x.1 && decide (rdN x.1 ≤ most)
def nuN (x : Rds) (most : Nat) : Nat := if nuB x most then rdN x.1 else 0
def nuS (x : Rds) (most : Nat) : Rds := (rdR x.1, nuB x most)
/-- a reader behind a letter -/
def beS (l : List UInt8) (c : UInt8) : Rds := if l.length ≤ 65536 then (match behind l c with | some r => (r, true) | none => ([], false)) else ([], false)
def nusL : Nat → Rds → List Nat
  | 0, _ => []
  | n + 1, x => nuN x 1073741824 :: nusL n (nuS x 1073741824)
def nusS : Nat → Rds → Rds
  | 0, x => x
  | n + 1, x => nusS n (nuS x 1073741824)
def moreN (k : Nat) : Nat := if k = 2 then 3 else if k = 3 ∨ k = 4 then 2 else 0
def rqOf (id k : Nat) (l : List Nat) : Rq := if k = 2 then ⟨id, k, (l.getD 0 0 : Nat), (l.getD 1 0 : Nat), (l.getD 2 0 : Nat)⟩ else if k = 3 ∨ k = 4 then ⟨id, k, (l.getD 0 0 : Nat), 0, (l.getD 1 0 : Nat)⟩ else ⟨id, k, 0, 0, 0⟩
def getRq (l : List UInt8) : Option Rq :=
  let x := beS l 81
  let y := nuS x 1073741824
  let k := nuN y 5
  let z := nuS y 5
  let e := nusS (moreN k) z
  if e.2 && e.1 == [] && decide (1 ≤ k) then some (rqOf (nuN x 1073741824) k (nusL (moreN k) z)) else none
theorem rd_parts (n : Nat) (r : List UInt8) (h : n < 18446744073709551616) : rdB (numL n ++ r) = true ∧ rdN (numL n ++ r) = n ∧ rdR (numL n ++ r) = r := by
  have := rd_num n h r
  unfold rdB rdN rdR
  rw [this]
  exact ⟨rfl, rfl, rfl⟩
theorem nu_put (n most : Nat) (r : List UInt8) (h : n ≤ most) (hm : most < 18446744073709551616) : nuN (numL n ++ r, true) most = n ∧ nuS (numL n ++ r, true) most = (r, true) := by
  obtain ⟨h1, h2, h3⟩ := rd_parts n r (by omega)
  have hb : nuB (numL n ++ r, true) most = true := by unfold nuB; simp [h1, h2, h]
  exact ⟨by unfold nuN; rw [hb]; simp [h2], by unfold nuS; rw [hb]; simp [h3]⟩
theorem nu_back (x : Rds) (most : Nat) (h : (nuS x most).2 = true) : x.2 = true ∧ x.1 = numL (nuN x most) ++ (nuS x most).1 ∧ nuN x most ≤ most := by
  have hb : nuB x most = true := h
  have hn : nuN x most = rdN x.1 := by unfold nuN; rw [hb]; rfl
  unfold nuB at hb
  simp only [Bool.and_eq_true, decide_eq_true_eq] at hb
  obtain ⟨⟨h1, h2⟩, h3⟩ := hb
  refine ⟨h1, ?_, by rw [hn]; exact h3⟩
  have := ((form_rd x.1).1 h2).1
  rw [hn]
  show x.1 = numL (rdN x.1) ++ rdR x.1
  exact (by simpa using this : numL (rdN x.1) ++ rdR x.1 = x.1).symm
theorem nu_zero (x : Rds) (most : Nat) (h : (nuS x most).2 = false) : nuN x most = 0 := by
  have hb : nuB x most = false := h
  unfold nuN; rw [hb]; rfl
theorem nuN_le (x : Rds) (most : Nat) : nuN x most ≤ most := by
  cases h : (nuS x most).2 with
  | true => exact (nu_back x most h).2.2
  | false => rw [nu_zero x most h]; omega
theorem nusL_len : ∀ n x, (nusL n x).length = n
  | 0, _ => rfl
  | n + 1, x => by rw [nusL, List.length_cons, nusL_len]
theorem nus_put : ∀ (l : List Nat) (r : List UInt8), (∀ n ∈ l, n ≤ 1073741824) → nusL l.length ((l.map numL).flatten ++ r, true) = l ∧ nusS l.length ((l.map numL).flatten ++ r, true) = (r, true)
  | [], r, _ => ⟨rfl, rfl⟩
  | n :: l, r, h => by
    have h0 := nu_put n 1073741824 ((l.map numL).flatten ++ r) (h n (by simp)) (by decide)
    have ih := nus_put l r (fun m hm => h m (by simp [hm]))
    simp only [List.map_cons, List.flatten_cons, List.append_assoc, List.length_cons, nusL, nusS]
    rw [h0.1, h0.2, ih.1, ih.2]
    exact ⟨rfl, rfl⟩
theorem nus_back : ∀ (n : Nat) (x : Rds), (nusS n x).2 = true → x.2 = true ∧ x.1 = ((nusL n x).map numL).flatten ++ (nusS n x).1 ∧ ∀ m ∈ nusL n x, m ≤ 1073741824
  | 0, x, h => ⟨h, rfl, fun m hm => by simp [nusL] at hm⟩
  | n + 1, x, h => by
    obtain ⟨h1, h2, h3⟩ := nus_back n (nuS x 1073741824) h
    obtain ⟨k1, k2, k3⟩ := nu_back x 1073741824 h1
    refine ⟨k1, ?_, ?_⟩
    · show x.1 = _
      conv => lhs; rw [k2]
      rw [h2, nusL, nusS, List.map_cons, List.flatten_cons, List.append_assoc]
    · intro m hm
      rw [nusL, List.mem_cons] at hm
      rcases hm with rfl | hm
      · exact k3
      · exact h3 m hm
theorem beS_back (l : List UInt8) (c : UInt8) (h : (beS l c).2 = true) : l = c :: (beS l c).1 ∧ l.length ≤ 65536 := by
  unfold beS at *
  split at h
  · rename_i hl
    cases hb : behind l c with
    | none => rw [hb] at h; cases h
    | some r => rw [if_pos hl]; exact ⟨behind_some hb, hl⟩
  · cases h
theorem beS_put (r : List UInt8) (c : UInt8) (h : r.length < 65536) : beS (c :: r) c = (r, true) := by
  unfold beS
  rw [if_pos (by simp; omega), behind_cons]
/-- the numbers that a kind does not have are none -/
def Rq.canon (r : Rq) : Rq := if r.kind = 2 then r else if r.kind = 3 ∨ r.kind = 4 then { r with count := 0 } else { r with fr := 0, count := 0, size := 0 }
theorem canon_nums (r : Rq) : r.canon.nums = r.nums ∧ r.canon.kind = r.kind ∧ r.canon.id = r.id := by
  unfold Rq.canon Rq.nums Rq.more
  split
  · simp [*]
  · split
    · rename_i h1 h2; simp [h1, h2]
    · rename_i h1 h2; simp [h1, h2]
theorem putRq_canon (r : Rq) : putRq r.canon = putRq r := by
  unfold putRq
  rw [(canon_nums r).1, (canon_nums r).2.1]
theorem goodZ_iff {n : Int} : goodZ n = true ↔ 0 ≤ n ∧ n ≤ 1073741824 := by unfold goodZ; simp
theorem kindB_iff {n : Int} : kindB n = true ↔ 1 ≤ n ∧ n ≤ 5 := by unfold kindB; simp
theorem numsT_nat (l : List Nat) : numsT (l.map fun (n : Nat) => (n : Int)) = (l.map numL).flatten := by
  unfold numsT
  rw [List.map_map]
  rfl
theorem numL_len30 (n : Nat) (h : n ≤ 1073741824) : (numL n).length ≤ 10 := numL_len n (by omega)
theorem nums_len : ∀ (l : List Nat), (∀ n ∈ l, n ≤ 1073741824) → ((l.map numL).flatten).length ≤ 10 * l.length
  | [], _ => by simp
  | n :: l, h => by
    have h1 := numL_len30 n (h n (by simp))
    have h2 := nums_len l (fun m hm => h m (by simp [hm]))
    simp only [List.map_cons, List.flatten_cons, List.length_append, List.length_cons]
    omega
/-- a request that may be, with numbers of Nat -/
theorem putRq_nat {r : Rq} {t : List UInt8} (h : putRq r = some t) : ∃ id k : Nat, ∃ l : List Nat, r.canon = rqOf id k l ∧ l.length = moreN k ∧ 1 ≤ k ∧ k ≤ 5 ∧ id ≤ 1073741824 ∧ (∀ n ∈ l, n ≤ 1073741824) ∧ t = 81 :: (numL id ++ (numL k ++ (l.map numL).flatten)) := by
  unfold putRq at h
  split at h
  · rename_i hg
    injection h with h
    subst h
    obtain ⟨id, k, f, c, s⟩ := r
    simp only [Bool.and_eq_true, kindB_iff] at hg
    obtain ⟨⟨hk1, hk2⟩, hall⟩ := hg
    rcases (by omega : k = 1 ∨ k = 2 ∨ k = 3 ∨ k = 4 ∨ k = 5) with rfl | rfl | rfl | rfl | rfl <;>
      simp [Rq.nums, Rq.more, goodZ_iff] at hall
    · obtain ⟨i, rfl⟩ : ∃ i : Nat, id = i := ⟨id.toNat, by omega⟩
      exact ⟨i, 1, [], rfl, rfl, by omega, by omega, by omega, by simp, by simp [Rq.nums, Rq.more, numsT]⟩
    · obtain ⟨i, rfl⟩ : ∃ i : Nat, id = i := ⟨id.toNat, by omega⟩
      obtain ⟨a, rfl⟩ : ∃ i : Nat, f = i := ⟨f.toNat, by omega⟩
      obtain ⟨b, rfl⟩ : ∃ i : Nat, c = i := ⟨c.toNat, by omega⟩
      obtain ⟨d, rfl⟩ : ∃ i : Nat, s = i := ⟨s.toNat, by omega⟩
      exact ⟨i, 2, [a, b, d], rfl, rfl, by omega, by omega, by omega, by simp; omega, by simp [Rq.nums, Rq.more, numsT]⟩
    · obtain ⟨i, rfl⟩ : ∃ i : Nat, id = i := ⟨id.toNat, by omega⟩
      obtain ⟨a, rfl⟩ : ∃ i : Nat, f = i := ⟨f.toNat, by omega⟩
      obtain ⟨d, rfl⟩ : ∃ i : Nat, s = i := ⟨s.toNat, by omega⟩
      exact ⟨i, 3, [a, d], rfl, rfl, by omega, by omega, by omega, by simp; omega, by simp [Rq.nums, Rq.more, numsT]⟩
    · obtain ⟨i, rfl⟩ : ∃ i : Nat, id = i := ⟨id.toNat, by omega⟩
      obtain ⟨a, rfl⟩ : ∃ i : Nat, f = i := ⟨f.toNat, by omega⟩
      obtain ⟨d, rfl⟩ : ∃ i : Nat, s = i := ⟨s.toNat, by omega⟩
      exact ⟨i, 4, [a, d], rfl, rfl, by omega, by omega, by omega, by simp; omega, by simp [Rq.nums, Rq.more, numsT]⟩
    · obtain ⟨i, rfl⟩ : ∃ i : Nat, id = i := ⟨id.toNat, by omega⟩
      exact ⟨i, 5, [], rfl, rfl, by omega, by omega, by omega, by simp, by simp [Rq.nums, Rq.more, numsT]⟩
  · cases h
theorem rqOf_canon (id k : Nat) (l : List Nat) : (rqOf id k l).canon = rqOf id k l := by
  unfold rqOf
  split
  · subst k; rfl
  · split
    · rename_i h1 h2
      have h2' : (k : Int) = 3 ∨ (k : Int) = 4 := by omega
      have h1' : ¬ (k : Int) = 2 := by omega
      simp [Rq.canon, h1', h2']
    · rename_i h1 h2
      have h2' : ¬ ((k : Int) = 3 ∨ (k : Int) = 4) := by omega
      have h1' : ¬ (k : Int) = 2 := by omega
      simp [Rq.canon, h1', h2']
theorem moreN_le (k : Nat) : moreN k ≤ 3 := by
  unfold moreN
  split
  · omega
  · split <;> omega
theorem putRq_len {r : Rq} {t : List UInt8} (h : putRq r = some t) : 0 < t.length ∧ t.length ≤ 60 := by
  obtain ⟨id, k, l, _, hl, hk1, hk2, hid, hall, rfl⟩ := putRq_nat h
  have := numL_len30 id hid
  have := numL_len30 k (by omega)
  have := nums_len l hall
  have := moreN_le k
  simp only [List.length_cons, List.length_append]
  omega
theorem getRq_put {r : Rq} {t : List UInt8} (h : putRq r = some t) : getRq t = some r.canon := by
  have hlen := (putRq_len h).2
  obtain ⟨id, k, l, hc, hl, hk1, hk2, hid, hall, rfl⟩ := putRq_nat h
  rw [hc]
  unfold getRq
  have h1 := nu_put id 1073741824 (numL k ++ (l.map numL).flatten) hid (by decide)
  have h2 := nu_put k 5 ((l.map numL).flatten) hk2 (by decide)
  have h3 := nus_put l [] hall
  rw [List.append_nil] at h3
  rw [beS_put _ _ (by simp at hlen ⊢; omega)]
  simp only [h1.1, h1.2, h2.1, h2.2, ← hl, h3.1, h3.2]
  rw [if_pos (by simp; omega)]
theorem getRq_back {l : List UInt8} {r : Rq} (h : getRq l = some r) : putRq r = some l ∧ r.canon = r := by
  unfold getRq at h
  dsimp only at h
  split at h
  · rename_i hg
    injection h with h
    simp only [Bool.and_eq_true, decide_eq_true_eq, beq_iff_eq] at hg
    obtain ⟨⟨he2, he1⟩, hk⟩ := hg
    have hkl := nuN_le (nuS (beS l 81) 1073741824) 5
    obtain ⟨a1, a2, a3⟩ := nus_back _ _ he2
    obtain ⟨b1, b2, b3⟩ := nu_back _ _ a1
    obtain ⟨c1, c2, c3⟩ := nu_back _ _ b1
    obtain ⟨d1, d2⟩ := beS_back _ _ c1
    rw [he1, List.append_nil] at a2
    have hL : (nusL (moreN (nuN (nuS (beS l 81) 1073741824) 5)) (nuS (nuS (beS l 81) 1073741824) 5)).length = moreN (nuN (nuS (beS l 81) 1073741824) 5) := nusL_len _ _
    rw [a2] at b2
    rw [b2] at c2
    rw [c2] at d1
    generalize nuN (nuS (beS l 81) 1073741824) 5 = k at *
    generalize nusL (moreN k) (nuS (nuS (beS l 81) 1073741824) 5) = L at *
    generalize nuN (beS l 81) 1073741824 = id at *
    subst h
    refine ⟨?_, rqOf_canon _ _ _⟩
    rw [d1]
    have hid : goodZ (id : Int) = true := goodZ_iff.2 (by omega)
    rcases (by omega : k = 1 ∨ k = 2 ∨ k = 3 ∨ k = 4 ∨ k = 5) with rfl | rfl | rfl | rfl | rfl
    · obtain rfl : L = [] := List.eq_nil_of_length_eq_zero hL
      unfold putRq
      rw [if_pos (by simp [rqOf, Rq.nums, Rq.more, kindB, hid, goodZ]; omega)]
      simp [rqOf, Rq.nums, Rq.more, numsT]
    · obtain ⟨a, b, c, rfl⟩ : ∃ a b c, L = [a, b, c] := by
        match L, hL with
        | [a, b, c], _ => exact ⟨a, b, c, rfl⟩
      simp at a3
      unfold putRq
      rw [if_pos (by simp [rqOf, Rq.nums, Rq.more, kindB, hid, goodZ]; omega)]
      simp [rqOf, Rq.nums, Rq.more, numsT]
    · obtain ⟨a, b, rfl⟩ : ∃ a b, L = [a, b] := by
        match L, hL with
        | [a, b], _ => exact ⟨a, b, rfl⟩
      simp at a3
      unfold putRq
      rw [if_pos (by simp [rqOf, Rq.nums, Rq.more, kindB, hid, goodZ]; omega)]
      simp [rqOf, Rq.nums, Rq.more, numsT]
    · obtain ⟨a, b, rfl⟩ : ∃ a b, L = [a, b] := by
        match L, hL with
        | [a, b], _ => exact ⟨a, b, rfl⟩
      simp at a3
      unfold putRq
      rw [if_pos (by simp [rqOf, Rq.nums, Rq.more, kindB, hid, goodZ]; omega)]
      simp [rqOf, Rq.nums, Rq.more, numsT]
    · obtain rfl : L = [] := List.eq_nil_of_length_eq_zero hL
      unfold putRq
      rw [if_pos (by simp [rqOf, Rq.nums, Rq.more, kindB, hid, goodZ]; omega)]
      simp [rqOf, Rq.nums, Rq.more, numsT]
  · cases h
/- what the document's way says -/
def refNs : Nat → List UInt8 → List Nat
  | 0, _ => []
  | n + 1, l => if rdB l && decide (rdN l ≤ 1073741824) then rdN l :: refNs n (rdR l) else []
def refRq (l : List UInt8) : Rq :=
  let L := refNs 5 (l.drop 1)
  let k := L.getD 1 0
  if k = 2 then ⟨(L.getD 0 0 : Nat), k, (L.getD 2 0 : Nat), (L.getD 3 0 : Nat), (L.getD 4 0 : Nat)⟩ else if k = 3 ∨ k = 4 then ⟨(L.getD 0 0 : Nat), k, (L.getD 2 0 : Nat), 0, (L.getD 3 0 : Nat)⟩ else ⟨(L.getD 0 0 : Nat), k, 0, 0, 0⟩
theorem refNs_put : ∀ (l : List Nat) (m : Nat), (∀ n ∈ l, n ≤ 1073741824) → l.length ≤ m → refNs m ((l.map numL).flatten) = l
  | [], m, _, _ => by
    cases m with
    | zero => rfl
    | succ m => simp [refNs, rdB, rd]
  | n :: l, 0, _, h => by simp at h
  | n :: l, m + 1, h, hm => by
    have h0 := h n (by simp)
    obtain ⟨h1, h2, h3⟩ := rd_parts n ((l.map numL).flatten) (by omega)
    simp only [List.map_cons, List.flatten_cons, refNs, h1, h2, h3, Bool.true_and]
    rw [if_pos (by simpa using h0), refNs_put l m (fun k hk => h k (by simp [hk])) (by simp at hm; omega)]
theorem refNs_le : ∀ (n : Nat) (l : List UInt8), (refNs n l).length ≤ n ∧ ∀ m ∈ refNs n l, m ≤ 1073741824
  | 0, l => ⟨by simp [refNs], fun m hm => by simp [refNs] at hm⟩
  | n + 1, l => by
    have ih := refNs_le n (rdR l)
    unfold refNs
    split
    · rename_i h
      simp only [Bool.and_eq_true, decide_eq_true_eq] at h
      refine ⟨by simp; exact ih.1, fun m hm => ?_⟩
      rw [List.mem_cons] at hm
      rcases hm with rfl | hm
      · exact h.2
      · exact ih.2 m hm
    · exact ⟨by simp, fun m hm => by simp at hm⟩
theorem refRq_of {l : List UInt8} {r : Rq} (h : putRq r = some l) : refRq l = r.canon := by
  obtain ⟨id, k, L, hc, hl, hk1, hk2, hid, hall, rfl⟩ := putRq_nat h
  have hr := refNs_put (id :: k :: L) 5 (by
    intro n hn
    simp only [List.mem_cons] at hn
    rcases hn with rfl | rfl | hn
    · exact hid
    · omega
    · exact hall n hn) (by simp; have := moreN_le k; omega)
  simp only [List.map_cons, List.flatten_cons] at hr
  rw [hc]
  unfold refRq
  rw [List.drop_succ_cons, List.drop_zero, hr]
  unfold rqOf
  simp
theorem refRq_yes {l : List UInt8} {r : Rq} (h : getRq l = some r) : refRq l = r ∧ putRq r = some l := by
  obtain ⟨h1, h2⟩ := getRq_back h
  exact ⟨by rw [refRq_of h1, h2], h1⟩
theorem refRq_no {l : List UInt8} (h : getRq l = none) : putRq (refRq l) ≠ some l := fun h2 => by
  rw [getRq_put h2] at h
  cases h
end Go.Proofs.Ytjpnlnbpaecciaa
