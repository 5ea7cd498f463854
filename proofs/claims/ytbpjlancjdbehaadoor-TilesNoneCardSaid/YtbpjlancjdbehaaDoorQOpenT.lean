/- Opening an argument that is two numbers. -/
import Derived.Test.YtbpjlancjdbehaaDoorQOpen2

set_option maxRecDepth 100000
namespace Go.Spec
open Go.RowKit Go.Deep
variable {H : Type} {enc : TypeId × Value → H} {P : Program} {w : World} {base : Nat} {spare : Nat → Bool} {held : Bool}
/-- two numbers in an array -/
theorem open_int2 {r : Reach} {b0 : Nat} {t e : TypeId} {v : Value} {d : DataW H} {p : List MemPlace} (ht : P.underlying t = some (.array 2 e)) (he : P.underlying e = some (.int .i64)) (hce : P.cellsOf e = 1) (hct : P.cellsOf t = 2)
    (hv : Value.okWide P w r b0 t v) (h : DataW.Trod enc P w base spare held t v d p) : ∃ x y : Int, v = .agg #[.int .i64 x, .int .i64 y] ∧ (-9223372036854775808 ≤ x ∧ x ≤ 9223372036854775807) ∧ (-9223372036854775808 ≤ y ∧ y ≤ 9223372036854775807) := by
  obtain ⟨cs, rfl, hsz, fuel, hf⟩ := open_arr ht hv h
  have hl : cs.toList.length = 2 := by simpa using hsz.trans hct
  obtain ⟨xs, m, _, _, _, hxs, hx⟩ := DataW.trod_array ht hf
  rw [hce] at hx
  have part : ∀ i (hi : i < cs.toList.length), ∃ x : Int, cs.toList[i] = .int .i64 x ∧ (-9223372036854775808 ≤ x ∧ x ≤ 9223372036854775807) := fun i hi => by
    have h1 := hx i (by omega)
    rw [Nat.mul_one, List.drop_eq_getElem_cons hi, List.take_succ_cons, List.take_zero] at h1
    rw [List.getElem?_eq_getElem (by omega)] at h1
    obtain ⟨q, hq, _, hwf⟩ := DataW.trod_int he h1
    injection hq with hq
    exact ⟨q, hq, i64_of_wf hwf⟩
  obtain ⟨x, hx0, hx1⟩ := part 0 (by omega)
  obtain ⟨y, hy0, hy1⟩ := part 1 (by omega)
  refine ⟨x, y, ?_, hx1, hy1⟩
  congr 1
  apply Array.toList_inj.1
  match hcl : cs.toList, hl with
  | [a, b], _ =>
    simp only [hcl, List.getElem_cons_zero, List.getElem_cons_succ] at hx0 hy0
    rw [hx0, hy0]
end Go.Spec
