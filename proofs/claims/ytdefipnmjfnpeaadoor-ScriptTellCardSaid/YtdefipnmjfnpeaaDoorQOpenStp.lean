/- Opening an argument that is a slice of steps. -/
import Derived.Test.YtdefipnmjfnpeaaDoorQOpen2
import Derived.Test.YtdefipnmjfnpeaaDoorQScrGet
import Derived.ChangeSame
set_option maxRecDepth 100000
namespace Go.Spec
open Go.RowKit Go.Deep
variable {H : Type} {enc : TypeId × Value → H} {P : Program} {w : World} {base : Nat} {spare : Nat → Bool} {held : Bool}
theorem open_rows {α : Type} (f : α → List Value) (R : α → Prop) {fuel sz : Nat} {t th : TypeId} {v : Value} {x : DataW H × List MemPlace} (ht : P.underlying t = some (.slice th)) (hcth : P.cellsOf th = sz) (h0 : 0 < sz)
    (hopen : ∀ m cs' x', DataW.trod enc P w base spare held m th cs' = some x' → cs'.length = sz → ∃ y : α, cs' = f y ∧ R y)
    (h : DataW.trod enc P w base spare held fuel t [v] = some x) : ∃ ys : List α, ys.length ≤ maxLen ∧ SlAt w sz v (ys.map f) ∧ ∀ y ∈ ys, R y := by
  rcases open_slice ht h with ⟨hcs0, _⟩ | ⟨a, len, cap, m, n, D, Pl, hcs0, hb, hl, hm, hmm, _, hx⟩
  · injection hcs0 with hv
    subst hv
    exact ⟨[], by simp, SlAt.nilG w sz, fun _ h => by simp at h⟩
  · injection hcs0 with hv
    subst hv
    have hlm : len ≤ m := by rw [hmm]; split <;> omega
    rw [hcth] at hx
    obtain ⟨ys, hyl, hys⟩ := choose_list (α := α) (p := fun i y => (f y).length = sz ∧ R y ∧ ∀ j u, (f y)[j]? = some u → w.cell? ((a.add (i * sz)).add j) = some u) len (fun i hi => by
      obtain ⟨cs', h1, h2⟩ := hx i (by omega)
      obtain ⟨hlc, hcells⟩ := mem_of_cells h1
      obtain ⟨y, rfl, hR⟩ := hopen _ _ _ h2 hlc
      exact ⟨y, hlc, hR, hcells⟩)
    have hspot : 0 < len → a.spot = none := fun h0 => by
      obtain ⟨h1, _, h2⟩ := hys 0 (by omega)
      have := h2 0 ((f (ys[0]'(by omega)))[0]'(by omega)) (by simp)
      have h3 : (a.add (0 * sz)).add 0 = a := by simp [Addr.add]
      rw [h3] at this
      exact World.cell?_spot this
    refine ⟨ys, by omega, ⟨some a, cap, by rw [List.length_map, hyl], by rw [List.length_map, hyl]; exact hl, ?_, ?_⟩, ?_⟩
    · intro cs hcs'
      simp only [List.mem_map] at hcs'
      obtain ⟨y, hy, rfl⟩ := hcs'
      obtain ⟨i, hi, rfl⟩ := List.mem_iff_getElem.1 hy
      exact (hys i hi).1
    · intro i cs hi
      have hi' : i < ys.length := by
        have := (List.getElem?_eq_some_iff.1 hi).1
        rwa [List.length_map] at this
      have hcs2 : cs = f ys[i] := by
        simp only [List.getElem?_map, List.getElem?_eq_getElem hi', Option.map_some] at hi
        injection hi with hi
        exact hi.symm
      obtain ⟨hsz, _, hcell⟩ := hys i hi'
      obtain ⟨b, o, sp⟩ := a
      have hs0 := hspot (by omega)
      simp only at hs0
      subst hs0
      have hadd : ∀ j, ((⟨b, o, none⟩ : Addr).add (i * sz)).add j = ⟨b, o + i * sz + j, none⟩ := fun j => by rw [Addr.add_lit, Addr.add_lit]
      refine ⟨b, o, rfl, ?_, fun j u hj => ?_⟩
      · have := hcell 0 ((f ys[i])[0]'(by omega)) (by simp)
        rw [hadd] at this
        exact World.block_lt_of_cell? w _ this
      · subst hcs2
        have := hcell j u hj
        rwa [hadd] at this
    · intro y hy
      obtain ⟨i, hi, rfl⟩ := List.mem_iff_getElem.1 hy
      exact (hys i hi).2.1
end Go.Spec
namespace Go.Proofs.YtdefipnmjfnpeaaDoor
open Go.RowKit Go.Spec Go.Deep Go.ChangeShapes
variable {H : Type} {enc : TypeId × Value → H} {w : World} {base : Nat} {spare : Nat → Bool} {held : Bool}
theorem cells_step : Tryd.prog.cellsOf 28 = 5 := by kernel_rfl
theorem cells_int : Tryd.prog.cellsOf 3 = 1 := by kernel_rfl
theorem cells_str : Tryd.prog.cellsOf 9 = 1 := by kernel_rfl
theorem open_stepC (m : Nat) (cs : List Value) (x : DataW H × List MemPlace) (h : DataW.trod enc Tryd.prog w base spare held m 28 cs = some x) (hl : cs.length = 5) :
    ∃ y : Stp, cs = y.cs.toList ∧ I64 y := by
  obtain ⟨xs, n, _, _, _, hlen, hf⟩ := DataW.trod_struct Tryd.underlying28 h
  have hlen' : xs.length = 5 := hlen
  have h0 : DataW.trod enc Tryd.prog w base spare held n 3 ((cs.drop 0).take (Tryd.prog.cellsOf 3)) = xs[0]? := hf 0 _ rfl
  have h1 : DataW.trod enc Tryd.prog w base spare held n 3 ((cs.drop 1).take (Tryd.prog.cellsOf 3)) = xs[1]? := hf 1 _ rfl
  have h2 : DataW.trod enc Tryd.prog w base spare held n 3 ((cs.drop 2).take (Tryd.prog.cellsOf 3)) = xs[2]? := hf 2 _ rfl
  have h3 : DataW.trod enc Tryd.prog w base spare held n 3 ((cs.drop 3).take (Tryd.prog.cellsOf 3)) = xs[3]? := hf 3 _ rfl
  have h4 : DataW.trod enc Tryd.prog w base spare held n 9 ((cs.drop 4).take (Tryd.prog.cellsOf 9)) = xs[4]? := hf 4 _ rfl
  rw [cells_int] at h0 h1 h2 h3
  rw [cells_str] at h4
  match xs, hlen' with
  | [y0, y1, y2, y3, y4], _ =>
    match cs, hl with
    | [c0, c1, c2, c3, c4], _ =>
      simp only [List.drop_zero, List.take_succ_cons, List.take_zero, List.drop_succ_cons, List.getElem?_cons_zero, List.getElem?_cons_succ] at h0 h1 h2 h3 h4
      obtain ⟨k, e0, _, _⟩ := DataW.trod_int Tryd.underlying3 h0
      obtain ⟨a, e1, _, w1⟩ := DataW.trod_int Tryd.underlying3 h1
      obtain ⟨b, e2, _, w2⟩ := DataW.trod_int Tryd.underlying3 h2
      obtain ⟨c, e3, _, w3⟩ := DataW.trod_int Tryd.underlying3 h3
      obtain ⟨s, e4, _, _⟩ := DataW.trod_string Tryd.underlying9 h4
      injection e0 with e0; injection e1 with e1; injection e2 with e2; injection e3 with e3; injection e4 with e4
      subst e0; subst e1; subst e2; subst e3; subst e4
      obtain ⟨t, rfl⟩ := mkS_form s
      exact ⟨⟨k, a, b, c, t⟩, rfl, i64_of_wf w1, i64_of_wf w2, i64_of_wf w3⟩
theorem open_stps {fuel : Nat} {v : Value} {x : DataW H × List MemPlace} (h : DataW.trod enc Tryd.prog w base spare held fuel 22 [v] = some x) :
    ∃ ys : List Stp, ys.length ≤ maxLen ∧ StpsAt w v ys ∧ ∀ y ∈ ys, I64 y :=
  open_rows (fun y : Stp => y.cs.toList) I64 Tryd.underlying22 cells_step (by decide) (fun m cs' x' h' hl => open_stepC m cs' x' h' hl) h
end Go.Proofs.YtdefipnmjfnpeaaDoor
