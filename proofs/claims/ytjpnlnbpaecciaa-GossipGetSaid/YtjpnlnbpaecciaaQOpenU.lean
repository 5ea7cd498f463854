/- Opening an argument of three uint16. -/
import Derived.Test.YtjpnlnbpaecciaaQOpen2

set_option maxRecDepth 100000
namespace Go.Spec
open Go.RowKit Go.Deep
variable {H : Type} {enc : TypeId × Value → H} {P : Program} {w : World} {base : Nat} {spare : Nat → Bool} {held : Bool}
theorem open_u16s {r : Reach} {b0 : Nat} {t e : TypeId} {v : Value} {d : DataW H} {p : List MemPlace} (ht : P.underlying t = some (.array 3 e)) (he : P.underlying e = some (.int .u16)) (hce : P.cellsOf e = 1) (hct : P.cellsOf t = 3)
    (hv : Value.okWide P w r b0 t v) (h : DataW.Trod enc P w base spare held t v d p) : ∃ x y z : Nat, v = .agg #[.int .u16 (x : Int), .int .u16 (y : Int), .int .u16 (z : Int)] ∧ x < 65536 ∧ y < 65536 ∧ z < 65536 := by
  obtain ⟨cs, rfl, hsz, fuel, hf⟩ := open_arr ht hv h
  have hl : cs.toList.length = 3 := by simpa using hsz.trans hct
  obtain ⟨xs, m, _, _, _, hxs, hx⟩ := DataW.trod_array ht hf
  rw [hce] at hx
  have part : ∀ i (hi : i < cs.toList.length), ∃ x : Nat, cs.toList[i] = .int .u16 (x : Int) ∧ x < 65536 := fun i hi => by
    have h1 := hx i (by omega)
    rw [Nat.mul_one, List.drop_eq_getElem_cons hi, List.take_succ_cons, List.take_zero] at h1
    rw [List.getElem?_eq_getElem (by omega)] at h1
    obtain ⟨q, hq, _, hwf⟩ := DataW.trod_int he h1
    injection hq with hq
    obtain ⟨n, rfl, hn⟩ := u16_of_wf hwf
    exact ⟨n, hq, hn⟩
  obtain ⟨x, hx0, hx1⟩ := part 0 (by omega)
  obtain ⟨y, hy0, hy1⟩ := part 1 (by omega)
  obtain ⟨z, hz0, hz1⟩ := part 2 (by omega)
  refine ⟨x, y, z, ?_, hx1, hy1, hz1⟩
  congr 1
  apply Array.toList_inj.1
  match hcl : cs.toList, hl with
  | [a, b, c], _ =>
    simp only [hcl, List.getElem_cons_zero, List.getElem_cons_succ] at hx0 hy0 hz0
    rw [hx0, hy0, hz0]
end Go.Spec
