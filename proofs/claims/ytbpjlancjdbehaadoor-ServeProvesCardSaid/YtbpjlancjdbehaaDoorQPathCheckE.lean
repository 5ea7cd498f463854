/- what paths.Check answers, plain -/
import Derived.Test.YtbpjlancjdbehaaDoorQTreeSplit

set_option maxRecDepth 100000
namespace Go.Proofs.YtbpjlancjdbehaaDoor
open Go.RowKit Go.Spec
def chkOut (i n : Int) : Prop := n < 1 ∨ 4096 < n ∨ i < 0 ∨ n ≤ i
instance (i n : Int) : Decidable (chkOut i n) := by unfold chkOut; infer_instance
def checkE (x : List UInt8) (i n : Int) (p : List (List UInt8)) (r : List UInt8) : Int := if chkOut i n then 2 else if checkN x i.toNat n.toNat p r then 0 else 80
theorem chk_ways {i n : Int} (h : chkOut i n) : (decide (n < 1) = true) ∨ (decide (n < 1) = false ∧ decide (4096 < n) = true) ∨ (decide (n < 1) = false ∧ decide (4096 < n) = false ∧ decide (i < 0) = true) ∨ (decide (n < 1) = false ∧ decide (4096 < n) = false ∧ decide (i < 0) = false ∧ decide (n ≤ i) = true) := by
  unfold chkOut at h
  simp only [decide_eq_true_eq, decide_eq_false_iff_not]
  omega
end Go.Proofs.YtbpjlancjdbehaaDoor
