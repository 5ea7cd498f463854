/- The block that was just made gets a name, and so does the world. -/
import Derived.Test.YtjpnlnbpaecciaaBase4
namespace Go.Spec
open Go.RowKit
variable {P : Program}
theorem wp_name {c : Code} {Q : Exit → Act → World → Prop} {a : Act} {w : World} {cs : Array Value} {t : TypeId}
    (h : ∀ (Z : Array Value) (w1 : World), Z.size = cs.size → Blk w1 w.heap.size Z t → Below w.heap.size w w1 → w1.heap.size = w.heap.size + 1 → Code.wp P c Q a w1) : Code.wp P c Q a (w.alloc (.cells cs t)) :=
  h cs _ rfl (Blk.new w cs t) ((Below.refl _ w).alloc (Nat.le_refl _) _) (by simp)
theorem SlAt.setRow {w : World} {size n cap k : Nat} {a : Option Addr} {css : List (List Value)} {cs : Array Value} (h : SlAt w size (.slice a n cap) css) (hk : ∀ ad, a = some ad → ad.block ≠ k) : SlAt (w.setRow k cs) size (.slice a n cap) css := by
  obtain ⟨a', cap', hv, hc, hs, hr⟩ := h
  refine ⟨a', cap', hv, hc, hs, fun i c hi => ?_⟩
  obtain ⟨b, o, ha, hb, hcell⟩ := hr i c hi
  refine ⟨b, o, ha, by rw [setRow_size']; exact hb, fun j u hj => ?_⟩
  rw [← hcell j u hj]
  injection hv with h1 h2 h3
  have := hk ⟨b, o, none⟩ (by rw [h1, ha])
  unfold World.cell?
  rw [Go.Spec.setRow_ne (show b ≠ k from this)]
/-- the world gets a name, with what is known of it -/
theorem wp_world {c : Code} {Q : Exit → Act → World → Prop} {a : Act} {w : World} (F : World → Prop) (hF : F w) (h : ∀ w', F w' → Code.wp P c Q a w') : Code.wp P c Q a w := h w hF
theorem wpList_buildSliceR {w : World} {ops : Array Oper} {rest : List Oper} {o : Oper} {a : Act} {Q : Exit → Act → World → Prop} (hgd : o.guard = none) (t : TypeId) (n : Nat) (parts : List (Nat × Operand)) (ho : o.op = .buildSlice t n parts.toArray) (v : Value) (w' : World)
    (hr : (Instr.buildSlice t n (parts.map fun (i, x) => (i, a.eval x)).toArray).run P w = .ok v w')
    (h : wpList P ops Q rest (a.put o.dst v) w') : wpList P ops Q (o :: rest) a w :=
  wpList_plain hgd fun _ hK => by
    unfold Oper.wp execOp
    simp only [ho, List.map_toArray, hr, Sem.run_bind, Sem.run_pure, Result.andThen_ok]
    exact hK _ _ h
end Go.Spec
