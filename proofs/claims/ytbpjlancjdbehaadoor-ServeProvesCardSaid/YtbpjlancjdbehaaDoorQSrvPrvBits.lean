/- the law ServeProves: masks of numbers -/
import Derived.Test.YtbpjlancjdbehaaDoorQSrvPrvLaw
import Derived.Laws.Bits128
set_option maxRecDepth 100000
namespace Go.Proofs.YtbpjlancjdbehaaDoor
open Go.RowKit Go.Spec
theorem i64_mask (k : Nat) (hk : k ≤ 62) (n : Int) : bits .and .i64 n ((2 ^ k - 1 : Nat) : Int) = n % (2 ^ k : Nat) := by
  have h : (BitVec.ofInt 64 ((2 ^ k - 1 : Nat) : Int)).toNat = 2 ^ k - 1 := by
    rw [BitVec.toNat_ofInt]
    have : 2 ^ k ≤ 2 ^ 62 := Nat.pow_le_pow_right (by omega) hk
    have : 0 < 2 ^ k := Nat.pow_pos (by omega)
    omega
  have key : (BitVec.ofInt 64 n &&& BitVec.ofInt 64 ((2 ^ k - 1 : Nat) : Int)).toNat = (n % ((2 ^ 64 : Nat) : Int)).toNat % 2 ^ k := by
    rw [BitVec.toNat_and, BitVec.toNat_ofInt, h, Nat.and_two_pow_sub_one_eq_mod]
  show IntKind.i64.wrap ((BitVec.ofInt 64 n &&& BitVec.ofInt 64 ((2 ^ k - 1 : Nat) : Int)).toNat : Nat) = n % (2 ^ k : Nat)
  rw [key, IntKind.wrap_i64]
  have h1 : 2 ^ k ≤ 2 ^ 62 := Nat.pow_le_pow_right (by omega) hk
  have h2 : 0 < 2 ^ k := Nat.pow_pos (by omega)
  have hd : (2 ^ k : Nat) ∣ 2 ^ 64 := Nat.pow_dvd_pow 2 (by omega)
  have e1 : ((n % ((2 ^ 64 : Nat) : Int)).toNat : Int) = n % ((2 ^ 64 : Nat) : Int) := Int.toNat_of_nonneg (Int.emod_nonneg _ (by decide))
  have e2 : (((n % ((2 ^ 64 : Nat) : Int)).toNat % 2 ^ k : Nat) : Int) = n % (2 ^ k : Nat) := by
    rw [Int.natCast_emod, e1]
    exact Int.emod_emod_of_dvd n (by exact_mod_cast hd)
  rw [e2]
  have e3 := Int.emod_nonneg n (b := ((2 ^ k : Nat) : Int)) (by omega)
  have e4 := Int.emod_lt_of_pos n (b := ((2 ^ k : Nat) : Int)) (by omega)
  have e5 : ((2 ^ k : Nat) : Int) ≤ 2 ^ 62 := by exact_mod_cast h1
  generalize n % ((2 ^ k : Nat) : Int) = z at *
  omega
theorem i64_and1 (n : Int) : bits .and .i64 n 1 = n % 2 := i64_mask 1 (by decide) n
theorem i64_and31 (n : Int) : bits .and .i64 n 31 = n % 32 := i64_mask 5 (by decide) n
theorem i64_and63 (n : Int) : bits .and .i64 n 63 = n % 64 := i64_mask 6 (by decide) n
theorem i64_and2 (n : Int) : bits .and .i64 n 2 = 0 ∨ bits .and .i64 n 2 = 2 := by
  have h : (BitVec.ofInt 64 2).toNat = 2 := by decide
  have key : (BitVec.ofInt 64 n &&& BitVec.ofInt 64 2).toNat = (n % ((2 ^ 64 : Nat) : Int)).toNat &&& 2 := by
    rw [BitVec.toNat_and, BitVec.toNat_ofInt, h]
  show IntKind.i64.wrap ((BitVec.ofInt 64 n &&& BitVec.ofInt 64 2).toNat : Nat) = 0 ∨ IntKind.i64.wrap ((BitVec.ofInt 64 n &&& BitVec.ofInt 64 2).toNat : Nat) = 2
  rw [key]
  generalize (n % ((2 ^ 64 : Nat) : Int)).toNat = m
  have hm : m &&& 2 = 0 ∨ m &&& 2 = 2 := by
    have h1 : m &&& 2 = (m / 2 % 2) * 2 := by
      apply Nat.eq_of_testBit_eq
      intro i
      rw [Nat.testBit_and]
      match i with
      | 0 => simp [Nat.testBit_zero]
      | 1 => 
        have : (m / 2 % 2 * 2).testBit 1 = (m / 2 % 2).testBit 0 := by
          rw [Nat.testBit_succ]; simp
        rw [this]
        simp [Nat.testBit_succ, Nat.testBit_zero]
      | i + 2 =>
        have hz : ∀ x : Nat, x ≤ 2 → x.testBit (i + 2) = false := fun x hx => by
          apply Nat.testBit_lt_two_pow
          have : 2 ^ 2 ≤ 2 ^ (i + 2) := Nat.pow_le_pow_right (by omega) (by omega)
          omega
        rw [hz 2 (by omega), hz (m / 2 % 2 * 2) (by omega), Bool.and_false]
    omega
  rcases hm with e | e <;> rw [e]
  · exact .inl (by decide)
  · exact .inr (by decide)
/-- a request, its numbers brought near -/
def nearR (r : Rq) : Rq := ⟨r.id, 2 + r.kind % 2 + bits .and .i64 r.kind 2 / 2, r.fr % 64, r.count % 32, r.size % 64⟩
theorem nearR_in (v : Nat) (r : Rq) : PrvIn v (nearR r) := by
  unfold nearR
  refine ⟨?_, ?_, ?_, ?_⟩
  · simp only
    rcases i64_and2 r.kind with e | e <;> rw [e] <;> omega
  · simp only; omega
  · simp only; omega
  · simp only; omega
theorem nearR_i (r : Rq) (h : RqI r) : RqI (nearR r) := by
  have hk := (nearR_in 0 r).kind
  have hf := (nearR_in 0 r).fr
  have hc := (nearR_in 0 r).count
  have hs := (nearR_in 0 r).size
  exact ⟨h.id, by unfold inI; omega, by unfold inI; omega, by unfold inI; omega, by unfold inI; omega⟩
theorem rq_ints (q : Rq) (k : Nat) (u : Value) (h : q.cs[k]? = some u) : ∃ z, u = .int .i64 z := by
  match k, h with
  | 0, h => exact ⟨_, by injection h with h; exact h.symm⟩
  | 1, h => exact ⟨_, by injection h with h; exact h.symm⟩
  | 2, h => exact ⟨_, by injection h with h; exact h.symm⟩
  | 3, h => exact ⟨_, by injection h with h; exact h.symm⟩
  | 4, h => exact ⟨_, by injection h with h; exact h.symm⟩
  | k + 5, h => simp [Rq.cs] at h
theorem _root_.Go.Spec.SlAt.setR {W : World} {g size : Nat} {v : Value} {css : List (List Value)} {q : Rq} {t : TypeId} (h : SlAt W size v css) (hy : Blk W g q.cs t) (hf : ∀ cs ∈ css, cs.length = size → ∃ (j : Nat) (u : Value), cs[j]? = some u ∧ ∀ z, u ≠ .int .i64 z) (j : Nat) (x : Value) : SlAt (W.setCell ⟨g, j, none⟩ x) size v css := by
  obtain ⟨a, cap, hv, hc, hs, hr⟩ := h
  refine ⟨a, cap, hv, hc, hs, fun i cs hi => ?_⟩
  obtain ⟨b, o, ha, hlt, hcell⟩ := hr i cs hi
  obtain ⟨j0, u0, hu, hne⟩ := hf cs (List.mem_of_getElem? hi) (hs cs (List.mem_of_getElem? hi))
  have hb : g ≠ b := fun e => by
    subst e
    have h1 := hcell j0 u0 hu
    rw [hy.cell] at h1
    obtain ⟨z, hz⟩ := rq_ints q _ _ h1
    exact hne z hz
  refine ⟨b, o, ha, by simp only [World.setCell, Array.size_modify]; exact hlt, fun j' u hj => ?_⟩
  rw [cell_set_ne (by exact hb)]; exact hcell j' u hj
theorem hcs_far (l : List (List UInt8)) : ∀ cs ∈ hcs l, cs.length = 32 → ∃ (j : Nat) (u : Value), cs[j]? = some u ∧ ∀ z, u ≠ .int .i64 z := by
  intro cs h hl
  obtain ⟨x, _, rfl⟩ := List.mem_map.1 h
  match x, hl with
  | c :: x, _ => exact ⟨0, bcell c, rfl, fun z h => by simp [bcell] at h⟩
theorem scells_far (l : List (List UInt8)) : ∀ cs ∈ scells l, cs.length = 1 → ∃ (j : Nat) (u : Value), cs[j]? = some u ∧ ∀ z, u ≠ .int .i64 z := by
  intro cs h _
  obtain ⟨x, _, rfl⟩ := List.mem_map.1 h
  exact ⟨0, sv x, rfl, fun z h => by cases h⟩
theorem sgL_far (l : List Sg) (hr : ∀ d ∈ l, d.root.length = 32) : ∀ cs ∈ l.map Sg.L, cs.length = 36 → ∃ (j : Nat) (u : Value), cs[j]? = some u ∧ ∀ z, u ≠ .int .i64 z := by
  intro cs h _
  obtain ⟨d, hd, rfl⟩ := List.mem_map.1 h
  have h32 := hr d hd
  obtain ⟨z, root, i, sig, path, a, cap⟩ := d
  match root, h32 with
  | c :: root, _ => exact ⟨1, bcell c, by simp [Sg.L, sgA], fun z h => by simp [bcell] at h⟩
theorem _root_.Go.Spec.SgsAt.setR {W : World} {g : Nat} {v : Value} {ds : List Sg} {q : Rq} {t : TypeId} (h : SgsAt W v ds) (hy : Blk W g q.cs t) (j : Nat) (x : Value) : SgsAt (W.setCell ⟨g, j, none⟩ x) v ds :=
  ⟨h.at_.setR hy (sgL_far ds fun d hd => (h.ok d hd).r32) j x, fun d hd => ⟨(h.ok d hd).r32, (h.ok d hd).at_.setR hy (hcs_far _) j x, (h.ok d hd).sl, (h.ok d hd).pl⟩⟩
theorem SrcIn.setR {W : World} {g : Nat} {S : Src} {ve vl vh vf : Value} {hd fd : List Sg} {q : Rq} {t : TypeId} (h : SrcIn W S ve vl vh vf hd fd) (hy : Blk W g q.cs t) (j : Nat) (x : Value) : SrcIn (W.setCell ⟨g, j, none⟩ x) S ve vl vh vf hd fd :=
  ⟨SlAt.setR h.entries hy (scells_far _) j x, h.leaves.setR hy (hcs_far _) j x, h.head.setR hy j x, h.fork.setR hy j x, h.hk, h.fk⟩
theorem near_kind (r : Rq) : wrap64 (wrap64 (2 + bits .and .i64 r.kind 1) + wrap64 ((bits .and .i64 r.kind 2).tdiv 2)) = (nearR r).kind := by
  show _ = 2 + r.kind % 2 + bits .and .i64 r.kind 2 / 2
  rw [i64_and1]
  have h : r.kind % 2 = 0 ∨ r.kind % 2 = 1 := by omega
  rcases i64_and2 r.kind with e | e <;> rcases h with e1 | e1 <;> rw [e, e1] <;> first | rfl | kernel_rfl | (unfold wrap64; decide)
/-- what lies when the log is laid -/
structure PrvW (w W : World) (g1 : Nat) (S : Src) (ve vl vh vf : Value) (hd fd : List Sg) (q : Rq) : Prop where
  x : Blk W g1 (srcC ve vl vh vf) 59
  i : SrcIn W S ve vl vh vf hd fd
  b : Below w.heap.size w W
  r : Blk W w.heap.size q.cs 61
  lt : w.heap.size < g1
theorem PrvW.set {w W : World} {g1 : Nat} {S : Src} {ve vl vh vf : Value} {hd fd : List Sg} {q q' : Rq} (h : PrvW w W g1 S ve vl vh vf hd fd q) (j : Nat) (x : Value) (hq : q.cs.setIfInBounds j x = q'.cs) : PrvW w (W.setCell ⟨w.heap.size, j, none⟩ x) g1 S ve vl vh vf hd fd q' := by
  refine ⟨h.x.setCell_ne (by have := h.lt; simp only; omega) x, h.i.setR h.r j x, h.b.grown (setCell_grown W w.heap.size j x) h.b.size (fun k hk => by injection hk with hk; omega), ?_, h.lt⟩
  have := h.r.setCell j x
  rwa [hq] at this
theorem PrvW.later {w W W' : World} {g1 : Nat} {S : Src} {ve vl vh vf : Value} {hd fd : List Sg} {q : Rq} (h : PrvW w W g1 S ve vl vh vf hd fd q) (hb : Below W.heap.size W W') : PrvW w W' g1 S ve vl vh vf hd fd q :=
  ⟨h.x.later hb, h.i.below hb, bth h.b hb, h.r.later hb, h.lt⟩
theorem PrvX.id {es : List (List UInt8)} {v : Nat} {q : Rq} {X : RpK} (h : PrvX es v q X) : X.id = q.id := by cases h with
  | err c hc hX he => rw [hX]
  | ents a c s hr h1' h2 h3 h4 hX => rw [hX]
  | incl a c s hr h3 h4 hX => rw [hX]
  | cons a c s hr h3 h4 hX => rw [hX]
theorem PrvW.cell {w W : World} {g1 : Nat} {S : Src} {ve vl vh vf : Value} {hd fd : List Sg} {q : Rq} (h : PrvW w W g1 S ve vl vh vf hd fd q) : W.cell? ⟨w.heap.size, 0, none⟩ = some (.int .i64 q.id) ∧ W.cell? ⟨w.heap.size, 1, none⟩ = some (.int .i64 q.kind) ∧ W.cell? ⟨w.heap.size, 2, none⟩ = some (.int .i64 q.fr) ∧ W.cell? ⟨w.heap.size, 3, none⟩ = some (.int .i64 q.count) ∧ W.cell? ⟨w.heap.size, 4, none⟩ = some (.int .i64 q.size) :=
  ⟨h.r.cell 0, h.r.cell 1, h.r.cell 2, h.r.cell 3, h.r.cell 4⟩
end Go.Proofs.YtbpjlancjdbehaaDoor
