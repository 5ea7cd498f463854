/- the law ShaSum: the walk -/
import Derived.Test.YtdllaenbkfajdaaDoorShaLaw02
import Derived.Test.YtdllaenbkfajdaaDoorShaRefSum
set_option maxRecDepth 100000
namespace Go.Proofs.YtdllaenbkfajdaaDoor
open Go.RowKit Go.Spec
set_option maxHeartbeats 1000000 in
theorem shaSum_law (l : List UInt8) (w : World) (hl : l.length ≤ 9223372036854775807) (hG : ShaG w) :
    Calls Tryd.prog 6 #[sv l] w fun e w' => e = .returned (.bool true) ∧ Below w.heap.size w w' := by
  have HB := Below.refl w.heap.size w
  have HG := hid hG; clear hG
  by_cases h1 : 3000 < l.length
  · have hd : decide ((3000 : Int) < (l.length : Int)) = true := by simp; omega
    clear h1
    go_enter Tryd.func6, Tryd.ntmps6
    go_wp2_with (go_at_call 22; refine (hashed_any _ HG.out).mono ?_; rintro e w1 ⟨rfl, hb⟩; replace HB := bth HB hb; clear hb)
    go_ret
    exact ⟨rfl, HB⟩
  · have hd : decide ((3000 : Int) < (l.length : Int)) = false := by simp; omega
    have hl2 : l.length ≤ 1000000000 := by omega
    clear h1
    have hx := sumL_len l
    have hs5 := Tryd.sizeU8
    go_enter Tryd.func6, Tryd.ntmps6
    go_wp2_with (first
      | (go_at_call 23; refine (sum_any l _ hl2 (HG.out.later HB)).mono ?_; rintro e w1 ⟨rfl, hb⟩; replace HB := bth HB hb; clear hb)
      | (go_at_call 24; refine (rsum_any l _ hl2).mono ?_; rintro e w2 ⟨rfl, hb⟩; replace HB := bth HB hb; clear hb)
      | (go_at_call 22; refine (hashed_any _ (HG.out.later HB)).mono ?_; rintro e w3 ⟨rfl, hb⟩; replace HB := bth HB hb; clear hb))
    go_ret
    exact ⟨rfl, HB⟩
end Go.Proofs.YtdllaenbkfajdaaDoor
