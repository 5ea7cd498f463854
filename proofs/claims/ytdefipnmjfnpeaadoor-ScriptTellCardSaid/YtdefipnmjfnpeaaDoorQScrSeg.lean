/- Regions that draw their order: a run of pure operations taken by one quiet walk, an index among them. -/
import Derived.Test.YtdefipnmjfnpeaaDoorQAnyOp

set_option maxRecDepth 100000
namespace Go.Spec
open Go.RowKit
section
variable {P : Program} {ops : Array Oper} {md : Region.Mode} {Q : Exit → Act → World → Prop} {C : World → Prop}
/-- operations that yield a value and leave the world -/
def segOp : Op → Bool
  | .move _ | .assign _ | .pick _ _ _ | .load _ _ | .build _ _ | .binOp _ _ _ _ _ | .unOp _ _ _ | .convert _ _ _ | .slice _ _ _ _ _ | .fieldAddr _ _ _ | .indexAddr _ _ _ | .extract _ _ | .index _ _ _ => true
  | _ => false
theorem vrun {s : Sem Value} {w w' : World} {n : Next} (hr : (do pure (Next.value (← s)) : Sem Next).run P w = .ok n w') : ∃ u, n = .value u := by
  rw [Sem.run_bind] at hr
  cases hs : s.run P w <;> simp [hs, Result.andThen, Sem.run_pure] at hr
  exact ⟨_, hr.1.symm⟩
theorem segOp_value {o : Oper} (h : segOp o.op = true) {ρ : Operand → Value} {w w' : World} {n : Next} (hr : (execOp ρ o).run P w = .ok n w') : ∃ u, n = .value u := by
  obtain ⟨dst, op, type, pos, after, guard⟩ := o
  simp only at h
  cases op <;> simp only [segOp, Bool.false_eq_true] at h
  case move x => simp [execOp, Sem.run_pure] at hr; exact ⟨_, hr.1.symm⟩
  case assign x => simp [execOp, Sem.run_pure] at hr; exact ⟨_, hr.1.symm⟩
  case pick c a b =>
    unfold execOp at hr
    simp only [Sem.run_bind] at hr
    cases hs : (asBool (ρ c)).run P w <;> simp [hs, Result.andThen, Sem.run_pure] at hr
    exact ⟨_, hr.1.symm⟩
  all_goals exact vrun hr
def segB (md : Region.Mode) (ops : Array Oper) : Nat → Nat → Array Bool → Bool
  | 0, _, _ => true
  | n + 1, k, listed => Region.free md ops listed k && (Region.ready md ops listed).contains k && ((ops[k]?).map fun o => segOp o.op).getD false && segB md ops n (k + 1) (listed.setIfInBounds k true)
def segL : Nat → Nat → Array Bool → Array Bool
  | 0, _, listed => listed
  | n + 1, k, listed => segL n (k + 1) (listed.setIfInBounds k true)
theorem wpAnyC_seg (hsel : Region.noSelect ops = true) (hQ : ∀ c a d v w, Q (.panic c) (Act.put a d v) w → Q (.panic c) a w) {w : World} {fuel : Nat} :
    ∀ (l : List Oper) (k : Nat) (listed : Array Bool) (a : Act), (∀ j, j < l.length → l[j]? = ops[k + j]?) → segB md ops l.length k listed = true →
      wpQuiet P ops C (fun a' => wpAnyC P md ops C Q fuel (segL l.length k listed) a' w) l a → wpAnyC P md ops C Q (fuel + l.length) listed a w
  | [], _, _, _, _, _, h => h
  | o :: l, k, listed, a, hl, hB, h => by
    have hk : ops[k]? = some o := by simpa using (hl 0 (by simp)).symm
    simp only [List.length_cons, segB, Bool.and_eq_true, hk, Option.map_some, Option.getD_some] at hB
    obtain ⟨⟨⟨h1, h2⟩, h3⟩, h4⟩ := hB
    have hl' : ∀ j, j < l.length → l[j]? = ops[k + 1 + j]? := fun j hj => by
      have := hl (j + 1) (by simpa using hj)
      rw [List.getElem?_cons_succ] at this
      rw [this]; congr 1; omega
    show wpAnyC P md ops C Q (fuel + l.length + 1) listed a w
    unfold wpQuiet at h
    by_cases hw : Region.wanted o (yielded ops a.tmps) = true
    · rw [if_pos hw] at h
      obtain ⟨v, hv, hn⟩ := h
      refine wpAnyC_take hk hsel h1 h2 (fun c a w => hQ c a _ _ w) (.inl ⟨hw, fun w' hw' => ?_⟩) (wpAnyC_seg hsel hQ l (k + 1) _ _ hl' h4 hn)
      have hq := hv w' hw'
      unfold Oper.quietAt at hq
      cases hr : (execOp a.eval o).run P w' with
      | ok n w'' =>
        rw [hr] at hq
        obtain ⟨u, rfl⟩ := segOp_value h3 hr
        obtain ⟨rfl, rfl⟩ := hq
        rfl
      | halt x y => rw [hr] at hq; exact hq.elim
    · rw [if_neg hw] at h
      exact wpAnyC_take hk hsel h1 h2 (fun c a w => hQ c a _ _ w) (.inr ⟨by simpa using hw, rfl⟩) (wpAnyC_seg hsel hQ l (k + 1) _ _ hl' h4 h)
theorem wpAnyC_segN {os : List Oper} (n k : Nat) (hsel : Region.noSelect os.toArray = true) (hQ : ∀ c a d v w, Q (.panic c) (Act.put a d v) w → Q (.panic c) a w) {w : World} {fuel : Nat} {listed : Array Bool} {a : Act}
    (hn : decide (k + n ≤ os.length) = true) (hB : segB md os.toArray n k listed = true)
    (h : wpQuiet P os.toArray C (fun a' => wpAnyC P md os.toArray C Q fuel (segL n k listed) a' w) ((os.drop k).take n) a) : wpAnyC P md os.toArray C Q (fuel + n) listed a w := by
  have hn' : k + n ≤ os.length := by simpa using hn
  have hlen : ((os.drop k).take n).length = n := by rw [List.length_take, List.length_drop]; omega
  have := wpAnyC_seg (P := P) (ops := os.toArray) (md := md) (Q := Q) (C := C) (w := w) (fuel := fuel) hsel hQ ((os.drop k).take n) k listed a (fun j hj => by
    rw [hlen] at hj
    rw [List.getElem?_take_of_lt hj, List.getElem?_drop, List.getElem?_toArray]) (by rw [hlen]; exact hB) (by rw [hlen]; exact h)
  rwa [hlen] at this
end
end Go.Spec
