/- Opening an argument that is a hash. -/
import Derived.Test.YtdllaenbkfajdaaDoorOpen
import Derived.Lib.SmallJoins
namespace Go.Spec
open Go.RowKit Go.Deep
variable {H : Type} {enc : TypeId × Value → H} {P : Program} {w : World} {base : Nat} {spare : Nat → Bool} {held : Bool}
theorem open_hash {r : Reach} {b0 : Nat} {t e : TypeId} {v : Value} {d : DataW H} {p : List MemPlace} (ht : P.underlying t = some (.array 32 e)) (he : P.underlying e = some (.int .u8)) (hce : P.cellsOf e = 1) (hct : P.cellsOf t = 32)
    (hv : Value.okWide P w r b0 t v) (h : DataW.Trod enc P w base spare held t v d p) : ∃ l : List UInt8, v = Go.Spec.hv l ∧ l.length = 32 := by
  have hcs : ∃ cs, v = .agg cs ∧ cs.size = P.cellsOf t := by
    simp only [Value.okWide, ht] at hv
    cases v <;> simp_all
  obtain ⟨cs, rfl, hsz⟩ := hcs
  obtain ⟨fuel, hf⟩ := h
  have hf' : DataW.trod enc P w base spare held fuel t cs.toList = some (d, p) := hf
  obtain ⟨l, h1, h2⟩ := open_bytes ht he hce hf' (by simpa using hsz.trans hct)
  refine ⟨l, ?_, h2⟩
  show Value.agg cs = .agg (l.map bcell).toArray
  rw [← h1]
end Go.Spec
