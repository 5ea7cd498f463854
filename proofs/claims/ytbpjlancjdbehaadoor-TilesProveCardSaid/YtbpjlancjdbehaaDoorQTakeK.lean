/- Regions that draw their order and end in one store: what is taken ahead need only be so in the worlds ahead of that store. -/
import Derived.Test.YtbpjlancjdbehaaDoorQAnyOp

set_option maxRecDepth 100000
namespace Go.Spec
open Go.RowKit
section
variable {P : Program} {ops : Array Oper} {md : Region.Mode} {Q : Exit → Act → World → Prop} {C : World → Prop} {k : Nat}
def waitsB (md : Region.Mode) (ops : Array Oper) (k i : Nat) : Bool :=
  match ops[k]? with
  | some o => o.after.any (fun e => Region.binds md e && e.on == i)
  | none => false
/-- as wpAnyC, but the class is asked for only while the operation k is not done -/
def wpAnyK (P : Program) (md : Region.Mode) (ops : Array Oper) (C : World → Prop) (k : Nat) (Q : Exit → Act → World → Prop) : Nat → Array Bool → Act → World → Prop
  | 0, listed, a, w => (listed.getD k true = false → C w) ∧ Region.ready md ops listed = [] ∧ Q .normal a w
  | fuel + 1, listed, a, w => (listed.getD k true = false → C w) ∧ (Region.ready md ops listed = [] → Q .normal a w) ∧
    ∀ i ∈ Region.ready md ops listed, wpOp P ops Q i (wpAnyK P md ops C k Q fuel (listed.setIfInBounds i true)) a w
theorem wpAny_of_K : ∀ (f : Nat) (listed : Array Bool) (a : Act) (w : World), wpAnyK P md ops C k Q f listed a w → wpAny P md ops Q f listed a w
  | 0, _, _, _, h => h.2
  | f + 1, _, _, _, h => ⟨h.2.1, fun i hi => wpOp_mono (fun a' w' h' => wpAny_of_K f _ a' w' h') (h.2.2 i hi)⟩
theorem wpAnyK_first {i : Nat} {oi : Oper} {v : Value} (hi : ops[i]? = some oi) (hsel : ∀ (j : Nat) (o : Oper) cs b, ops[j]? = some o → o.op ≠ .select cs b)
    (hQ : ∀ c a w, Q (.panic c) (a.put oi.dst v) w → Q (.panic c) a w) (hwait : waitsB md ops k i = true) (hik : i ≠ k) :
    ∀ (fuel : Nat) (listed : Array Bool) (a : Act) (w : World), listed.getD k true = false →
      (∀ j oj, ops[j]? = some oj → j ≠ i → listed.getD j true = false → (∀ e ∈ oj.after, Region.binds md e = true → e.on ≠ i) → oi.apart ops oj = true) →
      i ∈ Region.ready md ops listed → YieldsW P ops C oi v a →
      wpAnyK P md ops C k Q fuel (listed.setIfInBounds i true) (a.put oi.dst v) w → wpAnyK P md ops C k Q (fuel + 1) listed a w := by
  intro fuel
  induction fuel with
  | zero =>
    intro listed a w hk _ hr hy H
    have hC : C w := H.1 (by rw [getD_set_ne true hik]; exact hk)
    refine ⟨fun _ => hC, fun h => (by rw [h] at hr; cases hr), fun j hj => ?_⟩
    by_cases hji : j = i
    · subst hji; exact hy.wpOp hi hC H
    · have := ready_mono hj hji
      rw [H.2.1] at this
      cases this
  | succ fuel ih =>
    intro listed a w hk hfree hr hy H
    have hC : C w := H.1 (by rw [getD_set_ne true hik]; exact hk)
    refine ⟨fun _ => hC, fun h => (by rw [h] at hr; cases hr), fun j hj => ?_⟩
    by_cases hji : j = i
    · subst hji; exact hy.wpOp hi hC H
    · have h1 := H.2.2 j (ready_mono hj hji)
      obtain ⟨hjun, oj, hoj, hall⟩ := mem_ready.1 hj
      have hnot : ∀ e ∈ oj.after, Region.binds md e = true → e.on ≠ i := fun e he hb heq => by
        have h1 := hall e he hb
        have h0 := (mem_ready.1 hr).1
        rw [heq] at h1
        rcases Nat.lt_or_ge i listed.size with h' | h'
        · simp [h'] at h0 h1; rw [h0] at h1; cases h1
        · simp [Array.getElem?_eq_none h'] at h1
      have hjk : j ≠ k := fun e => by
        subst e
        unfold waitsB at hwait
        rw [hoj] at hwait
        simp only [Array.any_eq_true] at hwait
        obtain ⟨m, hm, hb⟩ := hwait
        simp only [Bool.and_eq_true, beq_iff_eq] at hb
        exact hnot _ (Array.getElem_mem hm) hb.1 hb.2
      have h2 := wpOp_putW hoj (hfree j oj hoj hji hjun hnot) (fun cs b => hsel i oi cs b hi) (fun cs b => hsel j oj cs b hoj) hQ hy h1
      have hfree' : ∀ k ok, ops[k]? = some ok → k ≠ i → (listed.setIfInBounds j true).getD k true = false →
          (∀ e ∈ ok.after, Region.binds md e = true → e.on ≠ i) → oi.apart ops ok = true := fun k ok hk hki hun hno => by
        refine hfree k ok hk hki ?_ hno
        by_cases hjk : j = k
        · subst hjk; exact hjun
        · rw [getD_set_ne true hjk] at hun; exact hun
      refine wpOp_mono (fun a' w' h3 => ih (listed.setIfInBounds j true) a' w' (by rw [getD_set_ne true hjk]; exact hk) hfree' (ready_mono hr (Ne.symm hji)) h3.1 ?_) h2
      rw [Array.setIfInBounds_comm _ _ hji]
      exact h3.2
/-- a load (or an operation without effect) taken ahead of the others; the last store waits for it -/
theorem wpAnyK_take {i : Nat} {oi : Oper} {v : Value} {fuel : Nat} {listed : Array Bool} {a : Act} {w : World} (hi : ops[i]? = some oi)
    (hs : Region.noSelect ops = true) (hf : Region.free md ops listed i = true) (hr : (Region.ready md ops listed).contains i = true)
    (hQ : ∀ c a w, Q (.panic c) (a.put oi.dst v) w → Q (.panic c) a w) (hk : (waitsB md ops k i && (i != k) && (listed.getD k true == false)) = true) (hy : YieldsW P ops C oi v a)
    (h : wpAnyK P md ops C k Q fuel (listed.setIfInBounds i true) (a.put oi.dst v) w) : wpAnyK P md ops C k Q (fuel + 1) listed a w := by
  simp only [Bool.and_eq_true, bne_iff_ne, ne_eq, beq_iff_eq] at hk
  exact wpAnyK_first hi (Region.noSelect_spec hs) hQ hk.1.1 hk.1.2 fuel listed a w hk.2 (Region.free_spec hi hf) (by simpa using hr) hy h
theorem wpAnyK_forced {fuel : Nat} {listed : Array Bool} {a : Act} {w : World} {i : Nat} {o : Oper} (hr : Region.ready md ops listed = [i]) (ho : ops[i]? = some o) (hw : listed.getD k true = false → C w)
    (h : wpList P ops (nextQ Q (wpAnyK P md ops C k Q fuel (listed.setIfInBounds i true))) [o] a w) : wpAnyK P md ops C k Q (fuel + 1) listed a w := by
  refine ⟨hw, fun h0 => (by rw [hr] at h0; cases h0), fun j hj => ?_⟩
  rw [hr] at hj
  obtain rfl : j = i := by simpa using hj
  exact wpOp_list ho h
theorem wpAnyK_all {rs : List Nat} {fuel : Nat} {listed : Array Bool} {a : Act} {w : World} (hr : Region.ready md ops listed = rs) (hne : rs ≠ []) (hw : listed.getD k true = false → C w)
    (h : ∀ i ∈ rs, wpOp P ops Q i (wpAnyK P md ops C k Q fuel (listed.setIfInBounds i true)) a w) : wpAnyK P md ops C k Q (fuel + 1) listed a w :=
  ⟨hw, fun h0 => absurd (hr ▸ h0) hne, hr ▸ h⟩
theorem wpAnyK_done {listed : Array Bool} {a : Act} {w : World} (hr : Region.ready md ops listed = []) (hd : listed.getD k true = true) (h : Q .normal a w) :
    ∀ fuel, wpAnyK P md ops C k Q fuel listed a w
  | 0 => ⟨fun h0 => absurd (hd.symm.trans h0) (by decide), hr, h⟩
  | _ + 1 => ⟨fun h0 => absurd (hd.symm.trans h0) (by decide), fun _ => h, by rw [hr]; simp⟩
theorem wp_region_anyK {id : Nat} {ops : Array Oper} {Q : Exit → Act → World → Prop} {a : Act} {w : World} (k : Nat) (C : World → Prop) (hm : P.follows .mixedOrders = true)
    (h : ∀ w1 : World, w1.heap = w.heap → Below w.heap.size w w1 → wpAnyK P .any ops C k Q ops.size (Array.replicate ops.size false) a w1) : (Code.region id ops true).wp P Q a w :=
  wp_region_anyw hm fun w1 h1 h2 => wpAny_of_K _ _ _ _ (h w1 h1 h2)
end
end Go.Spec
