/- Regions that draw their order, an operation at a time: an operation by a law of a list. -/
import Derived.Test.YtjpnlnbpaecciaaBase3
import Derived.Maps.RangeWalk
namespace Go.Spec
open Go.RowKit
variable {P : Program}
theorem wp_region_anyw {id : Nat} {ops : Array Oper} {Q : Exit → Act → World → Prop} {a : Act} {w : World} (hm : P.follows .mixedOrders = true)
    (h : ∀ w1 : World, w1.heap = w.heap → Below w.heap.size w w1 → wpAny P .any ops Q ops.size (Array.replicate ops.size false) a w1) : (Code.region id ops true).wp P Q a w :=
  wp_region_any hm (h _ rfl (Below.refl _ w).drew)
theorem wpOp_list {ops : Array Oper} {Q : Exit → Act → World → Prop} {K : Act → World → Prop} {a : Act} {w : World} {i : Nat} {o : Oper} (ho : ops[i]? = some o)
    (h : wpList P ops (nextQ Q K) [o] a w) : wpOp P ops Q i K a w := by
  unfold wpOp
  rw [ho]
  simp only [wpList] at h
  have hlet : LetsOut (nextQ Q K) → LetsOut Q := fun ⟨a0, w0, h0⟩ => ⟨a0, w0, h0⟩
  by_cases hw : Region.wanted o (yielded ops a.tmps) = true
  · simp only [hw, if_true] at h ⊢
    rcases h with h | ⟨h1, h2⟩
    · left
      unfold Oper.wp at h ⊢
      revert h
      generalize (execOp a.eval o).run P w = r
      intro h
      cases r with
      | halt x w' => cases x <;> exact h
      | ok n w' =>
        cases n with
        | enter f args =>
          refine Calls.mono h fun e w'' h' => ?_
          cases e with
          | returned v => exact h'
          | panicked c => exact h'
          | outgrown => exact hlet h'
        | _ => exact h
    · exact .inr ⟨h1, hlet h2⟩
  · simp only [hw] at h ⊢
    exact h
end Go.Spec
