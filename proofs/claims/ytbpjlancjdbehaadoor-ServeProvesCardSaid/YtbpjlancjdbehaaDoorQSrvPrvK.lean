/- the law ServeProves: small laws of the walk -/
import Derived.Test.YtbpjlancjdbehaaDoorQServed
import Derived.Test.YtbpjlancjdbehaaDoorQSrvPrvBits

set_option maxRecDepth 100000
namespace Go.Proofs.YtbpjlancjdbehaaDoor
open Go.RowKit Go.Spec
theorem Blk.keepT' {w' : World} {g : Nat} {x : List UInt8} (h : Blk w' g (hc x) 29) : ∀ j z, (x.map bcell)[j]? = some z → w'.cell? ((⟨g, 0, none⟩ : Addr).add j) = some z := fun j z hj => h.cells j z (by rw [hc_toList]; exact hj)
theorem wrap_small (n : Nat) (h : (n : Int) ≤ 40) : wrap64 (n : Int) = (n : Int) := by unfold wrap64; omega
end Go.Proofs.YtbpjlancjdbehaaDoor
