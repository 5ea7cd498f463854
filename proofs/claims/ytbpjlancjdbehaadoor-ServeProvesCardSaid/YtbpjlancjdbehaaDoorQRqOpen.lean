/- Opening an argument that is a request. -/
import Derived.Test.YtbpjlancjdbehaaDoorQOpen
import Derived.Test.YtbpjlancjdbehaaDoorQSrvLog
import Derived.Test.YtbpjlancjdbehaaDoorRows
import Derived.ChangeSame
set_option maxRecDepth 100000
namespace Go.Proofs.YtbpjlancjdbehaaDoor
open Go.RowKit Go.Spec Go.Deep Go.ChangeShapes
variable {H : Type} {enc : TypeId × Value → H} {P : Program} {w : World} {base : Nat} {spare : Nat → Bool} {held : Bool}
theorem Tryd.cellsRq5B : Tryd.prog.cellsOf 61 = 5 := by kernel_rfl
theorem open_i64B {t : TypeId} {m : Nat} {v : Value} {x : DataW H × List MemPlace} (ht : Tryd.prog.underlying t = some (.int .i64)) (h : DataW.trod enc Tryd.prog w base spare held m t [v] = some x) : ∃ z : Int, v = .int .i64 z ∧ inI z := by
  obtain ⟨z, hz, _, hwf⟩ := DataW.trod_int ht h
  injection hz with hz
  exact ⟨z, hz, i64_of_wf hwf⟩
theorem Tryd.cellsInt1B : Tryd.prog.cellsOf 3 = 1 := by kernel_rfl
theorem cells_oneB {cs : List Value} {k : Nat} (hk : k < cs.length) : (cs.drop k).take 1 = [cs[k]] := by rw [List.drop_eq_getElem_cons hk, List.take_succ_cons, List.take_zero]
theorem open_rqB {r : Reach} {b0 : Nat} {v : Value} {d : DataW H} {p : List MemPlace} (hv : Value.okWide Tryd.prog w r b0 61 v) (h : DataW.Trod enc Tryd.prog w base spare held 61 v d p) : ∃ q : Rq, v = q.v ∧ RqI q := by
  obtain ⟨cs, rfl, hsz⟩ := Go.WideShapes.okWide_struct Tryd.underlying61 hv
  obtain ⟨fuel, hf⟩ := h
  have hf' : DataW.trod enc Tryd.prog w base spare held fuel 61 cs.toList = some (d, p) := hf
  rw [Tryd.cellsRq5B] at hsz
  have hl : cs.toList.length = 5 := by simpa using hsz
  obtain ⟨xs, n, _, _, _, hlen, hg⟩ := DataW.trod_struct Tryd.underlying61 hf'
  have hlen' : xs.length = 5 := hlen
  have part : ∀ i (hi : i < 5), DataW.trod enc Tryd.prog w base spare held n 3 [cs.toList[i]'(by omega)] = xs[i]? → ∃ z : Int, cs.toList[i]'(by omega) = .int .i64 z ∧ inI z := fun i hi h => by
    rw [List.getElem?_eq_getElem (by omega)] at h
    exact open_i64B Tryd.underlying3 h
  have h0 : DataW.trod enc Tryd.prog w base spare held n 3 ((cs.toList.drop 0).take (Tryd.prog.cellsOf 3)) = xs[0]? := hg 0 _ rfl
  have h1 : DataW.trod enc Tryd.prog w base spare held n 3 ((cs.toList.drop 1).take (Tryd.prog.cellsOf 3)) = xs[1]? := hg 1 _ rfl
  have h2 : DataW.trod enc Tryd.prog w base spare held n 3 ((cs.toList.drop 2).take (Tryd.prog.cellsOf 3)) = xs[2]? := hg 2 _ rfl
  have h3 : DataW.trod enc Tryd.prog w base spare held n 3 ((cs.toList.drop 3).take (Tryd.prog.cellsOf 3)) = xs[3]? := hg 3 _ rfl
  have h4 : DataW.trod enc Tryd.prog w base spare held n 3 ((cs.toList.drop 4).take (Tryd.prog.cellsOf 3)) = xs[4]? := hg 4 _ rfl
  rw [Tryd.cellsInt1B, cells_oneB (by omega)] at h0 h1 h2 h3 h4
  obtain ⟨z0, e0, b0⟩ := part 0 (by omega) h0
  obtain ⟨z1, e1, b1⟩ := part 1 (by omega) h1
  obtain ⟨z2, e2, b2⟩ := part 2 (by omega) h2
  obtain ⟨z3, e3, b3⟩ := part 3 (by omega) h3
  obtain ⟨z4, e4, b4⟩ := part 4 (by omega) h4
  refine ⟨⟨z0, z1, z2, z3, z4⟩, ?_, ⟨b0, b1, b2, b3, b4⟩⟩
  show Value.agg cs = .agg (Rq.cs ⟨z0, z1, z2, z3, z4⟩)
  congr 1
  apply Array.toList_inj.1
  match hcl : cs.toList, hl with
  | [a, b, c, d, e], _ =>
    simp only [hcl, List.getElem_cons_zero, List.getElem_cons_succ] at e0 e1 e2 e3 e4
    rw [e0, e1, e2, e3, e4]
    rfl
end Go.Proofs.YtbpjlancjdbehaaDoor
