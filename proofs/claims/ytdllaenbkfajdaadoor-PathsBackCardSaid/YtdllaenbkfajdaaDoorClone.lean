/- append([]api.Hash(nil), p...): a row of the call's own with the same hashes. -/
import Derived.Test.YtdllaenbkfajdaaDoorOwnSet
namespace Go.Spec
open Go.RowKit
variable {P : Program} {w : World}
theorem wpList_clone {ops : Array Oper} {rest : List Oper} {o : Oper} {a : Act} {Q : Exit → Act → World → Prop} (hgd : o.guard = none) (s x : Operand) (t : TypeId)
    (ho : o.op = .call { callee := .builtin .append, args := #[s, x], argTypes := #[t, t] })
    (e : TypeId) (i : TypeInfo) (z : Value) (ht : P.underlying t = some (.slice e)) (hi : P.info? e = some i) (hz : i.zero = some z) (hsize : i.size = 32) (hby : i.bytes = 32) (hzs : z.cells.size = 32)
    (hs : a.eval s = .slice none 0 0) (base n : Nat) (v : Value) (hx : a.eval x = v) (p : List (List UInt8)) (hn : p.length = n) (hown : w.ownsRow base e 32 v n (hflat p)) (h32 : ∀ y ∈ p, y.length = 32) (hl : n ≤ 1000000)
    (h : ∀ v' w', w'.ownsRow w.heap.size e 32 v' n (hflat p) → Below w.heap.size w w' → wpList P ops Q rest (a.put o.dst v') w') : wpList P ops Q (o :: rest) a w := by
  have hfl : (hflat p).length = n * 32 := by unfold hflat; rw [List.length_map, flatten_len h32, hn]
  have hone : ∀ u ∈ hflat p, u.oneCell' = true := by unfold hflat; exact bcell_one _
  by_cases h0 : 0 < n
  · obtain ⟨g, cap, rfl, hb, hg, hnc, hcell⟩ := ownsRow_some hown h0
    refine wpList_app hgd s x t ho w.heap.size e i z 32 32 ht hi hz hsize hby hzs (by decide) (.slice none 0 0) 0 [] hs (World.ownsRow_nil _ _ _ _) ⟨g, 0, none⟩ n cap (hflat p) hx hfl hcell hone (by unfold maxLen; omega) (by omega) (Nat.le_refl _) ?_
    intro v' w' h1 h2 h3
    rw [Nat.zero_add, List.nil_append] at h1
    exact h v' w' h1 ((Below.refl _ w).grown h2 (Nat.le_refl _) (fun q hq => by simp [Value.ownBlock] at hq))
  · obtain rfl : n = 0 := by omega
    obtain ⟨ua, uc, rfl, _⟩ := ownsRow_form hown
    have hp : p = [] := List.eq_nil_of_length_eq_zero hn
    subst hp
    refine wpList_plain hgd fun _ hK => ?_
    have hr : (Builtin.append_ #[t, t] o.type #[.slice none 0 0, .slice ua 0 uc]).run P w = .ok (.slice none 0 0) w := by
      cases ua <;> simp [Builtin.append_, run_underlying ht, sizeOf, typeInfo, hi, Builtin.lenOf, Builtin.firstCells, loadCells, loadCellsFrom]
    unfold Oper.wp execOp
    simp only [ho, resolve, invoke, builtin, Sem.run_bind, Sem.run_pure, Result.andThen_ok, List.map_toArray, List.map_cons, List.map_nil, hs, hx, hr]
    exact hK _ _ (h _ _ (World.ownsRow_nil _ _ _ _) (Below.refl _ _))
end Go.Spec
