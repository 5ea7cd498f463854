/- Opening arguments: rows of heads and of rough heads. -/
import Derived.Test.YtjpnlnbpaecciaaQOpen
import Derived.Test.YtjpnlnbpaecciaaQOpen2
import Derived.Test.YtjpnlnbpaecciaaQSigned
import Derived.ChangeSame
set_option maxRecDepth 100000
namespace Go.Spec
open Go.RowKit Go.Deep
variable {H : Type} {enc : TypeId × Value → H} {P : Program} {w : World} {base : Nat} {spare : Nat → Bool} {held : Bool}
theorem open_rows {α : Type} (f : α → List Value) (R : α → Prop) {fuel sz : Nat} {t th : TypeId} {v : Value} {x : DataW H × List MemPlace} (ht : P.underlying t = some (.slice th)) (hcth : P.cellsOf th = sz) (h0 : 0 < sz)
    (hopen : ∀ m cs' x', DataW.trod enc P w base spare held m th cs' = some x' → cs'.length = sz → ∃ y : α, cs' = f y ∧ R y)
    (h : DataW.trod enc P w base spare held fuel t [v] = some x) : ∃ ys : List α, ys.length ≤ maxLen ∧ SlAt w sz v (ys.map f) ∧ ∀ y ∈ ys, R y := by
  rcases open_slice ht h with ⟨hcs0, _⟩ | ⟨a, len, cap, m, n, D, Pl, hcs0, hb, hl, hm, hmm, _, hx⟩
  · injection hcs0 with hv
    subst hv
    exact ⟨[], by simp, SlAt.nilG w sz, fun _ h => by simp at h⟩
  · injection hcs0 with hv
    subst hv
    have hlm : len ≤ m := by rw [hmm]; split <;> omega
    rw [hcth] at hx
    obtain ⟨ys, hyl, hys⟩ := choose_list (α := α) (p := fun i y => (f y).length = sz ∧ R y ∧ ∀ j u, (f y)[j]? = some u → w.cell? ((a.add (i * sz)).add j) = some u) len (fun i hi => by
      obtain ⟨cs', h1, h2⟩ := hx i (by omega)
      obtain ⟨hlc, hcells⟩ := mem_of_cells h1
      obtain ⟨y, rfl, hR⟩ := hopen _ _ _ h2 hlc
      exact ⟨y, hlc, hR, hcells⟩)
    have hspot : 0 < len → a.spot = none := fun h0 => by
      obtain ⟨h1, _, h2⟩ := hys 0 (by omega)
      have := h2 0 ((f (ys[0]'(by omega)))[0]'(by omega)) (by simp)
      have h3 : (a.add (0 * sz)).add 0 = a := by simp [Addr.add]
      rw [h3] at this
      exact World.cell?_spot this
    refine ⟨ys, by omega, ⟨some a, cap, by rw [List.length_map, hyl], by rw [List.length_map, hyl]; exact hl, ?_, ?_⟩, ?_⟩
    · intro cs hcs'
      simp only [List.mem_map] at hcs'
      obtain ⟨y, hy, rfl⟩ := hcs'
      obtain ⟨i, hi, rfl⟩ := List.mem_iff_getElem.1 hy
      exact (hys i hi).1
    · intro i cs hi
      have hi' : i < ys.length := by
        have := (List.getElem?_eq_some_iff.1 hi).1
        rwa [List.length_map] at this
      have hcs2 : cs = f ys[i] := by
        simp only [List.getElem?_map, List.getElem?_eq_getElem hi', Option.map_some] at hi
        injection hi with hi
        exact hi.symm
      obtain ⟨hsz, _, hcell⟩ := hys i hi'
      obtain ⟨b, o, sp⟩ := a
      have hs0 := hspot (by omega)
      simp only at hs0
      subst hs0
      have hadd : ∀ j, ((⟨b, o, none⟩ : Addr).add (i * sz)).add j = ⟨b, o + i * sz + j, none⟩ := fun j => by rw [Addr.add_lit, Addr.add_lit]
      refine ⟨b, o, rfl, ?_, fun j u hj => ?_⟩
      · have := hcell 0 ((f ys[i])[0]'(by omega)) (by simp)
        rw [hadd] at this
        exact World.block_lt_of_cell? w _ this
      · subst hcs2
        have := hcell j u hj
        rwa [hadd] at this
    · intro y hy
      obtain ⟨i, hi, rfl⟩ := List.mem_iff_getElem.1 hy
      exact (hys i hi).2.1
theorem i8_of_wf {x : Int} (h : (Lit.int .i8 x).wf = true) : -128 ≤ x ∧ x ≤ 127 := by
  have h2 := h
  simp [Lit.wf, IntKind.has, IntKind.min, IntKind.max, IntKind.bits, IntKind.signed] at h2
  omega
end Go.Spec
namespace Go.Proofs.Ytjpnlnbpaecciaa
open Go.RowKit Go.Spec Go.Deep
variable {H : Type} {enc : TypeId × Value → H} {w : World} {base : Nat} {spare : Nat → Bool} {held : Bool}
theorem Try.cellsInt1 : Try.prog.cellsOf 3 = 1 := by kernel_rfl
theorem Try.cellsStr1 : Try.prog.cellsOf 9 = 1 := by kernel_rfl
theorem Try.cellsI81 : Try.prog.cellsOf 73 = 1 := by kernel_rfl
theorem Try.cellsU81 : Try.prog.cellsOf 5 = 1 := by kernel_rfl
theorem Try.cellsHs1 : Try.prog.cellsOf 37 = 1 := by kernel_rfl
theorem Try.cellsHash32 : Try.prog.cellsOf 34 = 32 := by kernel_rfl
theorem Try.cellsHead33 : Try.prog.cellsOf 36 = 33 := by kernel_rfl
theorem open_headC (m : Nat) (cs : List Value) (x : DataW H × List MemPlace) (h : DataW.trod enc Try.prog w base spare held m 36 cs = some x) (hl : cs.length = 33) :
    ∃ y : Hd, cs = y.L ∧ y.r.length = 32 := by
  obtain ⟨y0, y1, n, _, _, h0, h1⟩ := Go.ChangeShapes.trod_struct2 Try.underlying36 h
  simp only [Try.cellsInt1, Try.cellsHash32, List.drop_zero] at h0 h1
  obtain ⟨z, hz, _, hwf⟩ := DataW.trod_int Try.underlying3 h0
  obtain ⟨r, hr, hr32⟩ := open_bytes Try.underlying34 Try.underlying5 Try.cellsU81 h1 (by rw [List.length_take, List.length_drop]; omega)
  refine ⟨⟨z, r⟩, ?_, hr32⟩
  have : cs = cs.take 1 ++ (cs.drop 1).take 32 := by
    rw [List.take_of_length_le (l := cs.drop 1) (by rw [List.length_drop]; omega), List.take_append_drop]
  rw [this, hz, hr]
  rfl
theorem open_roughC (m : Nat) (cs : List Value) (x : DataW H × List MemPlace) (h : DataW.trod enc Try.prog w base spare held m 75 cs = some x) (hl : cs.length = 37) :
    ∃ y : Rg, cs = y.L ∧ y.In w := by
  obtain ⟨xs, n, _, _, _, hlen, hf⟩ := DataW.trod_struct Try.underlying75 h
  have hlen' : xs.length = 5 := hlen
  have h0 : DataW.trod enc Try.prog w base spare held n 36 ((cs.drop 0).take (Try.prog.cellsOf 36)) = xs[0]? := hf 0 _ rfl
  have h1 : DataW.trod enc Try.prog w base spare held n 3 ((cs.drop 33).take (Try.prog.cellsOf 3)) = xs[1]? := hf 1 _ rfl
  have h2 : DataW.trod enc Try.prog w base spare held n 9 ((cs.drop 34).take (Try.prog.cellsOf 9)) = xs[2]? := hf 2 _ rfl
  have h3 : DataW.trod enc Try.prog w base spare held n 73 ((cs.drop 35).take (Try.prog.cellsOf 73)) = xs[3]? := hf 3 _ rfl
  have h4 : DataW.trod enc Try.prog w base spare held n 37 ((cs.drop 36).take (Try.prog.cellsOf 37)) = xs[4]? := hf 4 _ rfl
  rw [List.getElem?_eq_getElem (by omega)] at h0 h1 h2 h3 h4
  simp only [Try.cellsInt1, Try.cellsStr1, Try.cellsI81, Try.cellsHs1, Try.cellsHead33, List.drop_zero] at h0 h1 h2 h3 h4
  obtain ⟨hd, hhd, hr32⟩ := open_headC _ _ _ h0 (by rw [List.length_take]; omega)
  obtain ⟨i, hi, _, _⟩ := DataW.trod_int Try.underlying3 h1
  obtain ⟨sg, hs, _, _⟩ := DataW.trod_string Try.underlying9 h2
  obtain ⟨mo, hm, _, hwf⟩ := DataW.trod_int Try.underlying73 h3
  obtain ⟨l, rfl⟩ := mkS_form sg
  obtain ⟨pv, hpv⟩ : ∃ pv, (cs.drop 36).take 1 = [pv] := by
    have : 36 < cs.length := by omega
    exact ⟨cs[36], by rw [List.drop_eq_getElem_cons this, List.take_succ_cons, List.take_zero]⟩
  rw [hpv] at h4
  obtain ⟨path, hpl, hpat⟩ := open_hashes Try.underlying37 Try.underlying34 Try.underlying5 Try.cellsU81 Try.cellsHash32 h4
  obtain ⟨a, cap, rfl, _⟩ := hpat.formH
  obtain ⟨hm1, hm2⟩ := i8_of_wf hwf
  refine ⟨⟨hd.z, hd.r, i, l, mo, path, a, cap⟩, ?_, ⟨hr32, hpat, hm1, hm2⟩⟩
  have e : cs = cs.take 33 ++ ((cs.drop 33).take 1 ++ ((cs.drop 34).take 1 ++ ((cs.drop 35).take 1 ++ (cs.drop 36).take 1))) := by
    rw [List.take_of_length_le (l := cs.drop 36) (by rw [List.length_drop]; omega)]
    rw [show cs.drop 36 = (cs.drop 35).drop 1 by rw [List.drop_drop], List.take_append_drop, show cs.drop 35 = (cs.drop 34).drop 1 by rw [List.drop_drop], List.take_append_drop, show cs.drop 34 = (cs.drop 33).drop 1 by rw [List.drop_drop], List.take_append_drop, List.take_append_drop]
  rw [e, hhd, hi, hs, hm, hpv]
  simp [Rg.L, rgA, Hd.L, hdA]
theorem open_heads {fuel : Nat} {v : Value} {x : DataW H × List MemPlace} (h : DataW.trod enc Try.prog w base spare held fuel 23 [v] = some x) : ∃ hs : List Hd, hs.length ≤ maxLen ∧ HdsAt w v hs := by
  obtain ⟨ys, h1, h2, h3⟩ := open_rows Hd.L (fun y : Hd => y.r.length = 32) Try.underlying23 Try.cellsHead33 (by decide) open_headC h
  exact ⟨ys, h1, h2, h3⟩
theorem open_roughs {fuel : Nat} {v : Value} {x : DataW H × List MemPlace} (h : DataW.trod enc Try.prog w base spare held fuel 22 [v] = some x) : ∃ rs : List Rg, rs.length ≤ maxLen ∧ RgsAt w v rs := by
  obtain ⟨ys, h1, h2, h3⟩ := open_rows Rg.L (fun y : Rg => y.In w) Try.underlying22 (by kernel_rfl) (by decide : 0 < 37) open_roughC h
  exact ⟨ys, h1, h2, h3⟩
end Go.Proofs.Ytjpnlnbpaecciaa
