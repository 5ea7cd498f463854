/- the law ServeProves: the walk -/
import Derived.Test.YtbpjlancjdbehaaDoorQSrvPrvA
import Derived.Test.YtbpjlancjdbehaaDoorQSrvPrvC
import Derived.Test.YtbpjlancjdbehaaDoorQSrvPrvE1
import Derived.Test.YtbpjlancjdbehaaDoorQSrvPrvE2
import Derived.Test.YtbpjlancjdbehaaDoorQSrvPrvE3
import Derived.Test.YtbpjlancjdbehaaDoorQSrvPrvE4
import Derived.Test.YtbpjlancjdbehaaDoorQSrvPrvE5
import Derived.Test.YtbpjlancjdbehaaDoorQSrvPrvE6
import Derived.Test.YtbpjlancjdbehaaDoorQSrvPrvI

set_option maxRecDepth 100000
namespace Go.Proofs.YtbpjlancjdbehaaDoor
open Go.RowKit Go.Spec
theorem serveProves_law (v : Value) (es : List (List UInt8)) (r : Rq) (n : Nat) (w : World) (hS : StrsAt w v es) (hlm : es.length ≤ 9223372036854775807) (hi : RqI r) (hn : n < 256) (hG : ShaG w) :
    Calls Tryd.prog 9 #[v, r.v, .int .u8 (n : Int)] w fun e w' => e = .returned (.bool true) ∧ Below w.heap.size w w' := by
  by_cases hE : ErrC (n % (es.length + 1)) (nearR r)
  · unfold ErrC at hE
    rcases hE with h | h | h | ⟨h, h', hk, g | g | g⟩
    · exact serveProves_err1 v es r n w hS hlm hi hn hG h
    · exact serveProves_err2 v es r n w hS hlm hi hn hG h
    · exact serveProves_err3 v es r n w hS hlm hi hn hG h
    · exact serveProves_err4 v es r n w hS hlm hi hn hG ⟨h, h', hk, g⟩
    · exact serveProves_err5 v es r n w hS hlm hi hn hG ⟨h, h', hk, g⟩
    · exact serveProves_err6 v es r n w hS hlm hi hn hG ⟨h, h', hk, g⟩
  · rcases (nearR_in (n % (es.length + 1)) r).kind with hk | hk | hk
    · exact serveProves_ents v es r n w hS hlm hi hn hG ⟨hE, hk⟩
    · exact serveProves_incl v es r n w hS hlm hi hn hG ⟨hE, hk⟩
    · exact serveProves_cons v es r n w hS hlm hi hn hG ⟨hE, hk⟩
end Go.Proofs.YtbpjlancjdbehaaDoor
