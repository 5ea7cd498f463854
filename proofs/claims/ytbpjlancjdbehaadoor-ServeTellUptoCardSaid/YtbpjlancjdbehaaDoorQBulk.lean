/- What the bound on the readings' bulk gives; rows of parts whose bulk is bounded. -/
import Derived.Test.YtbpjlancjdbehaaDoorQOpen
import Derived.Test.YtbpjlancjdbehaaDoorQSrvGreat
import Derived.Test.YtbpjlancjdbehaaDoorRows
set_option maxRecDepth 100000
namespace Go.Proofs.YtbpjlancjdbehaaDoor
open Go.RowKit Go.Spec Go.Deep Go.ChangeShapes
theorem bulk_one {H : Type} (d : DataW H) : 1 ≤ Rows.uptoBulk d := by
  cases d with
  | lit l => cases l <;> simp [Rows.uptoBulk]
  | nil => simp [Rows.uptoBulk]
  | ptr d => simp [Rows.uptoBulk]
  | slice elems spare => simp [Rows.uptoBulk]
  | agg parts => simp [Rows.uptoBulk]
  | iface t d => simp [Rows.uptoBulk]
  | map entries => simp [Rows.uptoBulk]
  | held h => simp [Rows.uptoBulk]
theorem bulk_part {H : Type} {d : DataW H} {l : List (DataW H)} (h : d ∈ l) : Rows.uptoBulk d ≤ Rows.uptoBulkAll l := by
  induction l with
  | nil => cases h
  | cons x r ih =>
    simp only [Rows.uptoBulkAll]
    cases List.mem_cons.1 h with
    | inl e => subst e; omega
    | inr e => have := ih e; omega
theorem bulk_len {H : Type} (l : List (DataW H)) : l.length ≤ Rows.uptoBulkAll l := by
  induction l with
  | nil => simp [Rows.uptoBulkAll]
  | cons x r ih => have := bulk_one x; simp only [Rows.uptoBulkAll, List.length_cons]; omega
theorem bulk_agg {H : Type} {d : DataW H} {l : List (DataW H)} (h : d ∈ l) : Rows.uptoBulk d ≤ Rows.uptoBulk (.agg l) := by
  have := bulk_part h
  simp only [Rows.uptoBulk]; omega
theorem bulk_slice {H : Type} (n : Nat) (D : Nat → DataW H) (sp : List (DataW H)) : n ≤ Rows.uptoBulk (.slice ((List.range n).map D) sp) ∧ ∀ i, i < n → Rows.uptoBulk (D i) ≤ Rows.uptoBulk (.slice ((List.range n).map D) sp) := by
  have h1 := bulk_len ((List.range n).map D)
  rw [List.length_map, List.length_range] at h1
  refine ⟨by simp only [Rows.uptoBulk]; omega, fun i hi => ?_⟩
  have := bulk_part (d := D i) (l := (List.range n).map D) (List.mem_map_of_mem (List.mem_range.2 hi))
  simp only [Rows.uptoBulk]; omega
variable {H : Type} {enc : TypeId × Value → H} {P : Program} {w : World} {base : Nat} {spare : Nat → Bool} {held : Bool}
theorem open_rowsB {α : Type} (B : Nat) (f : α → List Value) (R : α → Prop) {fuel sz : Nat} {t th : TypeId} {v : Value} {x : DataW H × List MemPlace} (ht : P.underlying t = some (.slice th)) (hcth : P.cellsOf th = sz) (h0 : 0 < sz)
    (hopen : ∀ m cs' x', DataW.trod enc P w base spare held m th cs' = some x' → cs'.length = sz → Rows.uptoBulk x'.1 ≤ B → ∃ y : α, cs' = f y ∧ R y)
    (h : DataW.trod enc P w base spare held fuel t [v] = some x) (hB : Rows.uptoBulk x.1 ≤ B) : ∃ ys : List α, ys.length ≤ B ∧ SlAt w sz v (ys.map f) ∧ ∀ y ∈ ys, R y := by
  rcases open_slice ht h with ⟨hcs0, _⟩ | ⟨a, len, cap, m, n, D, Pl, hcs0, hb, hl, hm, hmm, hxe, hx⟩
  · injection hcs0 with hv
    subst hv
    exact ⟨[], by simp, SlAt.nilG w sz, fun _ h => by simp at h⟩
  · injection hcs0 with hv
    subst hv
    have hlm : len ≤ m := by rw [hmm]; split <;> omega
    obtain ⟨hlB, hDB⟩ := bulk_slice len D ((List.range (m - len)).map fun j => D (len + j))
    rw [hxe] at hB
    simp only at hB
    rw [hcth] at hx
    obtain ⟨ys, hyl, hys⟩ := choose_list (α := α) (p := fun i y => (f y).length = sz ∧ R y ∧ ∀ j u, (f y)[j]? = some u → w.cell? ((a.add (i * sz)).add j) = some u) len (fun i hi => by
      obtain ⟨cs', h1, h2⟩ := hx i (by omega)
      obtain ⟨hlc, hcells⟩ := mem_of_cells h1
      obtain ⟨y, rfl, hR⟩ := hopen _ _ _ h2 hlc (by have := hDB i hi; simp only; omega)
      exact ⟨y, hlc, hR, hcells⟩)
    have hspot : 0 < len → a.spot = none := fun h0 => by
      obtain ⟨h1, _, h2⟩ := hys 0 (by omega)
      have := h2 0 ((f (ys[0]'(by omega)))[0]'(by omega)) (by simp)
      have h3 : (a.add (0 * sz)).add 0 = a := by simp [Addr.add]
      rw [h3] at this
      exact World.cell?_spot this
    refine ⟨ys, by omega, ⟨some a, cap, by rw [List.length_map, hyl], by rw [List.length_map, hyl]; exact hl, ?_, ?_⟩, ?_⟩
    · intro cs hcs'
      simp only [List.mem_map] at hcs'
      obtain ⟨y, hy, rfl⟩ := hcs'
      obtain ⟨i, hi, rfl⟩ := List.mem_iff_getElem.1 hy
      exact (hys i hi).1
    · intro i cs hi
      have hi' : i < ys.length := by
        have := (List.getElem?_eq_some_iff.1 hi).1
        rwa [List.length_map] at this
      have hcs2 : cs = f ys[i] := by
        simp only [List.getElem?_map, List.getElem?_eq_getElem hi', Option.map_some] at hi
        injection hi with hi
        exact hi.symm
      obtain ⟨hsz, _, hcell⟩ := hys i hi'
      obtain ⟨b, o, sp⟩ := a
      have hs0 := hspot (by omega)
      simp only at hs0
      subst hs0
      have hadd : ∀ j, ((⟨b, o, none⟩ : Addr).add (i * sz)).add j = ⟨b, o + i * sz + j, none⟩ := fun j => by rw [Addr.add_lit, Addr.add_lit]
      refine ⟨b, o, rfl, ?_, fun j u hj => ?_⟩
      · have := hcell 0 ((f ys[i])[0]'(by omega)) (by simp)
        rw [hadd] at this
        exact World.block_lt_of_cell? w _ this
      · subst hcs2
        have := hcell j u hj
        rwa [hadd] at this
    · intro y hy
      obtain ⟨i, hi, rfl⟩ := List.mem_iff_getElem.1 hy
      exact (hys i hi).2.1
theorem Tryd.cellsInt1B : Tryd.prog.cellsOf 3 = 1 := by kernel_rfl
theorem Tryd.cellsStr1B : Tryd.prog.cellsOf 9 = 1 := by kernel_rfl
theorem Tryd.cellsHs1B : Tryd.prog.cellsOf 22 = 1 := by kernel_rfl
theorem Tryd.cellsHead33B : Tryd.prog.cellsOf 90 = 33 := by kernel_rfl
theorem Tryd.cellsSeal3B : Tryd.prog.cellsOf 88 = 3 := by kernel_rfl
theorem Tryd.cellsSigned36B : Tryd.prog.cellsOf 92 = 36 := by kernel_rfl
theorem Tryd.cellsRq5B : Tryd.prog.cellsOf 61 = 5 := by kernel_rfl
theorem Tryd.cellsSgs1B : Tryd.prog.cellsOf 57 = 1 := by kernel_rfl
theorem Tryd.cellsStrs1B : Tryd.prog.cellsOf 56 = 1 := by kernel_rfl
theorem Tryd.cellsSrc4B : Tryd.prog.cellsOf 59 = 4 := by kernel_rfl
theorem cells_oneB {cs : List Value} {k : Nat} (hk : k < cs.length) : (cs.drop k).take 1 = [cs[k]] := by rw [List.drop_eq_getElem_cons hk, List.take_succ_cons, List.take_zero]
theorem open_i64B {t : TypeId} {m : Nat} {v : Value} {x : DataW H × List MemPlace} (ht : Tryd.prog.underlying t = some (.int .i64)) (h : DataW.trod enc Tryd.prog w base spare held m t [v] = some x) : ∃ z : Int, v = .int .i64 z ∧ inI z := by
  obtain ⟨z, hz, _, hwf⟩ := DataW.trod_int ht h
  injection hz with hz
  exact ⟨z, hz, i64_of_wf hwf⟩
theorem open_hashesB (B : Nat) {fuel : Nat} {v : Value} {x : DataW H × List MemPlace} (h : DataW.trod enc Tryd.prog w base spare held fuel 22 [v] = some x) (hB : Rows.uptoBulk x.1 ≤ B) : ∃ hs : List (List UInt8), hs.length ≤ B ∧ SlAt w 32 v (hcs hs) := by
  obtain ⟨hs, h1, h2, _⟩ := open_rowsB B (fun l : List UInt8 => l.map bcell) (fun _ => True) Tryd.underlying22 Tryd.cellsHash32 (by decide) (fun m cs' x' hx hl _ => by
    obtain ⟨l, hl1, _⟩ := open_bytes Tryd.underlying29 Tryd.underlying5 Tryd.cellsU81 hx hl
    exact ⟨l, hl1, trivial⟩) h hB
  exact ⟨hs, h1, h2⟩
theorem open_textsB (B : Nat) {fuel : Nat} {v : Value} {x : DataW H × List MemPlace} (h : DataW.trod enc Tryd.prog w base spare held fuel 56 [v] = some x) (hB : Rows.uptoBulk x.1 ≤ B) : ∃ es : List (List UInt8), es.length ≤ B ∧ StrsAt w v es ∧ ∀ t ∈ es, t.length ≤ B :=
  open_rowsB B (fun l : List UInt8 => [sv l]) (fun l => l.length ≤ B) Tryd.underlying56 Tryd.cellsStr1B (by decide) (fun m cs' x' hx hl hb => by
    match cs', hl with
    | [c], _ =>
      obtain ⟨sg, hs, hxe, _⟩ := DataW.trod_string Tryd.underlying9 hx
      injection hs with hs
      obtain ⟨l, rfl⟩ := mkS_form sg
      rw [hxe] at hb
      simp only [Rows.uptoBulk] at hb
      exact ⟨l, by rw [hs], by have : (mkS l).data.toList.length = l.length := by rw [Array.length_toList]; exact mkS_size l
                               omega⟩) h hB
theorem open_signedB (B : Nat) (hB9 : B ≤ 1048576) (m : Nat) (cs : List Value) (x : DataW H × List MemPlace) (h : DataW.trod enc Tryd.prog w base spare held m 92 cs = some x) (hl : cs.length = 36) (hB : Rows.uptoBulk x.1 ≤ B) :
    ∃ y : Sg, cs = y.L ∧ y.In w := by
  obtain ⟨xs, n, _, hxe, _, hlen, hf⟩ := DataW.trod_struct Tryd.underlying92 h
  have hlen' : xs.length = 2 := hlen
  have h0 : DataW.trod enc Tryd.prog w base spare held n 90 ((cs.drop 0).take (Tryd.prog.cellsOf 90)) = xs[0]? := hf 0 _ rfl
  have h1 : DataW.trod enc Tryd.prog w base spare held n 88 ((cs.drop 33).take (Tryd.prog.cellsOf 88)) = xs[1]? := hf 1 _ rfl
  rw [List.getElem?_eq_getElem (by omega)] at h0 h1
  simp only [Tryd.cellsSeal3B, Tryd.cellsHead33B, List.drop_zero] at h0 h1
  have hb1 : Rows.uptoBulk (xs[1]'(by omega)).1 ≤ B := by
    rw [hxe] at hB
    exact Nat.le_trans (bulk_agg (List.mem_map_of_mem (List.getElem_mem _))) hB
  obtain ⟨hd, hhd, hr32⟩ := open_headC _ _ _ h0 (by rw [List.length_take]; omega)
  have hl3 : ((cs.drop 33).take 3).length = 3 := by rw [List.length_take, List.length_drop]; omega
  obtain ⟨ys, n2, _, hye, _, hlen2, hf2⟩ := DataW.trod_struct Tryd.underlying88 h1
  have hlen2' : ys.length = 3 := hlen2
  have k0 : DataW.trod enc Tryd.prog w base spare held n2 3 ((((cs.drop 33).take 3).drop 0).take (Tryd.prog.cellsOf 3)) = ys[0]? := hf2 0 _ rfl
  have k1 : DataW.trod enc Tryd.prog w base spare held n2 9 ((((cs.drop 33).take 3).drop 1).take (Tryd.prog.cellsOf 9)) = ys[1]? := hf2 1 _ rfl
  have k2 : DataW.trod enc Tryd.prog w base spare held n2 22 ((((cs.drop 33).take 3).drop 2).take (Tryd.prog.cellsOf 22)) = ys[2]? := hf2 2 _ rfl
  rw [List.getElem?_eq_getElem (by omega)] at k0 k1 k2
  simp only [Tryd.cellsInt1B, Tryd.cellsStr1B, Tryd.cellsHs1B] at k0 k1 k2
  rw [cells_oneB (by omega)] at k0 k1 k2
  rw [hye] at hb1
  have c1 : Rows.uptoBulk (ys[1]'(by omega)).1 ≤ B := Nat.le_trans (bulk_agg (List.mem_map_of_mem (List.getElem_mem _))) hb1
  have c2 : Rows.uptoBulk (ys[2]'(by omega)).1 ≤ B := Nat.le_trans (bulk_agg (List.mem_map_of_mem (List.getElem_mem _))) hb1
  obtain ⟨i, hi, _⟩ := open_i64B Tryd.underlying3 k0
  obtain ⟨sg, hs, hse, _⟩ := DataW.trod_string Tryd.underlying9 k1
  injection hs with hs
  obtain ⟨l, rfl⟩ := mkS_form sg
  rw [hse] at c1
  simp only [Rows.uptoBulk] at c1
  have hsl : (mkS l).data.toList.length = l.length := by rw [Array.length_toList]; exact mkS_size l
  obtain ⟨path, hpl, hpat⟩ := open_hashesB B k2 c2
  obtain ⟨a, cap, hpv, _⟩ := hpat.formH
  refine ⟨⟨hd.z, hd.r, i, l, path, a, cap⟩, ?_, ⟨hr32, by rw [hpv] at hpat; exact hpat, by simp only; omega, by simp only; omega⟩⟩
  have e3 : (cs.drop 33).take 3 = [((cs.drop 33).take 3)[0], ((cs.drop 33).take 3)[1], ((cs.drop 33).take 3)[2]] := by
    apply List.ext_getElem
    · simpa using hl3
    · intro j h1 h2
      match j, h1 with
      | 0, _ => rfl
      | 1, _ => rfl
      | 2, _ => rfl
      | j + 3, h1 => omega
  have e : cs = cs.take 33 ++ (cs.drop 33).take 3 := by
    rw [List.take_of_length_le (l := cs.drop 33) (by rw [List.length_drop]; omega), List.take_append_drop]
  rw [e, hhd, e3, hi, hs, hpv]
  simp [Sg.L, sgA, Hd.L, hdA]
/-- a source -/
theorem open_src (B : Nat) (hB9 : B ≤ 1048576) {r : Reach} {b0 : Nat} {v : Value} {d : DataW H} {p : List MemPlace} (hv : Value.okWide Tryd.prog w r b0 59 v) (h : DataW.Trod enc Tryd.prog w base spare held 59 v d p) (hB : Rows.uptoBulk d ≤ B) :
    ∃ (S : Src) (ve vl vh vf : Value) (hd fd : List Sg), v = .agg (srcC ve vl vh vf) ∧ SrcIn w S ve vl vh vf hd fd ∧ SrcMid S := by
  obtain ⟨cs, rfl, hsz⟩ := Go.WideShapes.okWide_struct Tryd.underlying59 hv
  obtain ⟨fuel, hf⟩ := h
  have hf' : DataW.trod enc Tryd.prog w base spare held fuel 59 cs.toList = some (d, p) := hf
  rw [Tryd.cellsSrc4B] at hsz
  have hl : cs.toList.length = 4 := by simpa using hsz
  obtain ⟨c0, c1, c2, c3, hcl⟩ : ∃ c0 c1 c2 c3, cs.toList = [c0, c1, c2, c3] := by
    match cs.toList, hl with
    | [a, b, c, d], _ => exact ⟨a, b, c, d, rfl⟩
  rw [hcl] at hf'
  obtain ⟨xs, n, _, hxe, _, hlen, hg⟩ := DataW.trod_struct Tryd.underlying59 hf'
  have hlen' : xs.length = 4 := hlen
  have hde : d = .agg (xs.map Prod.fst) := congrArg Prod.fst hxe
  rw [hde] at hB
  have part : ∀ i (hi : i < xs.length), Rows.uptoBulk xs[i].1 ≤ B := fun i hi => Nat.le_trans (bulk_agg (List.mem_map_of_mem (List.getElem_mem _))) hB
  have h0 : DataW.trod enc Tryd.prog w base spare held n 56 (([c0, c1, c2, c3].drop 0).take (Tryd.prog.cellsOf 56)) = xs[0]? := hg 0 _ rfl
  have h1 : DataW.trod enc Tryd.prog w base spare held n 22 (([c0, c1, c2, c3].drop 1).take (Tryd.prog.cellsOf 22)) = xs[1]? := hg 1 _ rfl
  have h2 : DataW.trod enc Tryd.prog w base spare held n 57 (([c0, c1, c2, c3].drop 2).take (Tryd.prog.cellsOf 57)) = xs[2]? := hg 2 _ rfl
  have h3 : DataW.trod enc Tryd.prog w base spare held n 57 (([c0, c1, c2, c3].drop 3).take (Tryd.prog.cellsOf 57)) = xs[3]? := hg 3 _ rfl
  rw [List.getElem?_eq_getElem (by omega)] at h0 h1 h2 h3
  rw [Tryd.cellsStrs1B, cells_oneB (by simp)] at h0
  rw [Tryd.cellsHs1B, cells_oneB (by simp)] at h1
  rw [Tryd.cellsSgs1B, cells_oneB (by simp)] at h2 h3
  obtain ⟨es, l0, s0, t0⟩ := open_textsB B h0 (part 0 (by omega))
  obtain ⟨ls, l1, s1⟩ := open_hashesB B h1 (part 1 (by omega))
  obtain ⟨hd, l2, s2, t2⟩ := open_rowsB B Sg.L (fun y : Sg => y.In w) Tryd.underlying57 Tryd.cellsSigned36B (by decide) (open_signedB B hB9) h2 (part 2 (by omega))
  obtain ⟨fd, l3, s3, t3⟩ := open_rowsB B Sg.L (fun y : Sg => y.In w) Tryd.underlying57 Tryd.cellsSigned36B (by decide) (open_signedB B hB9) h3 (part 3 (by omega))
  refine ⟨⟨es, ls, hd.map Sg.k, fd.map Sg.k⟩, c0, c1, c2, c3, hd, fd, ?_, ⟨s0, s1, ⟨s2, t2⟩, ⟨s3, t3⟩, rfl, rfl⟩, ⟨by simp only; omega, fun t ht => by have := t0 t ht; omega, by simp only; omega, by simp only [List.length_map]; omega, by simp only [List.length_map]; omega⟩⟩
  show Value.agg cs = .agg (srcC c0 c1 c2 c3)
  congr 1
  apply Array.toList_inj.1
  rw [hcl]; rfl
/-- a request -/
theorem open_rqB {r : Reach} {b0 : Nat} {v : Value} {d : DataW H} {p : List MemPlace} (hv : Value.okWide Tryd.prog w r b0 61 v) (h : DataW.Trod enc Tryd.prog w base spare held 61 v d p) : ∃ q : Rq, v = q.v ∧ RqI q := by
  obtain ⟨cs, rfl, hsz⟩ := Go.WideShapes.okWide_struct Tryd.underlying61 hv
  obtain ⟨fuel, hf⟩ := h
  have hf' : DataW.trod enc Tryd.prog w base spare held fuel 61 cs.toList = some (d, p) := hf
  rw [Tryd.cellsRq5B] at hsz
  have hl : cs.toList.length = 5 := by simpa using hsz
  obtain ⟨xs, n, _, _, _, hlen, hg⟩ := DataW.trod_struct Tryd.underlying61 hf'
  have hlen' : xs.length = 5 := hlen
  have part : ∀ i (hi : i < 5), DataW.trod enc Tryd.prog w base spare held n 3 [cs.toList[i]'(by omega)] = xs[i]? → ∃ z : Int, cs.toList[i]'(by omega) = .int .i64 z ∧ inI z := fun i hi h => by
    rw [List.getElem?_eq_getElem (by omega)] at h
    exact open_i64B Tryd.underlying3 h
  have h0 : DataW.trod enc Tryd.prog w base spare held n 3 ((cs.toList.drop 0).take (Tryd.prog.cellsOf 3)) = xs[0]? := hg 0 _ rfl
  have h1 : DataW.trod enc Tryd.prog w base spare held n 3 ((cs.toList.drop 1).take (Tryd.prog.cellsOf 3)) = xs[1]? := hg 1 _ rfl
  have h2 : DataW.trod enc Tryd.prog w base spare held n 3 ((cs.toList.drop 2).take (Tryd.prog.cellsOf 3)) = xs[2]? := hg 2 _ rfl
  have h3 : DataW.trod enc Tryd.prog w base spare held n 3 ((cs.toList.drop 3).take (Tryd.prog.cellsOf 3)) = xs[3]? := hg 3 _ rfl
  have h4 : DataW.trod enc Tryd.prog w base spare held n 3 ((cs.toList.drop 4).take (Tryd.prog.cellsOf 3)) = xs[4]? := hg 4 _ rfl
  rw [Tryd.cellsInt1B, cells_oneB (by omega)] at h0 h1 h2 h3 h4
  obtain ⟨z0, e0, b0⟩ := part 0 (by omega) h0
  obtain ⟨z1, e1, b1⟩ := part 1 (by omega) h1
  obtain ⟨z2, e2, b2⟩ := part 2 (by omega) h2
  obtain ⟨z3, e3, b3⟩ := part 3 (by omega) h3
  obtain ⟨z4, e4, b4⟩ := part 4 (by omega) h4
  refine ⟨⟨z0, z1, z2, z3, z4⟩, ?_, ⟨b0, b1, b2, b3, b4⟩⟩
  show Value.agg cs = .agg (Rq.cs ⟨z0, z1, z2, z3, z4⟩)
  congr 1
  apply Array.toList_inj.1
  match hcl : cs.toList, hl with
  | [a, b, c, d, e], _ =>
    simp only [hcl, List.getElem_cons_zero, List.getElem_cons_succ] at e0 e1 e2 e3 e4
    rw [e0, e1, e2, e3, e4]
    rfl
end Go.Proofs.YtbpjlancjdbehaaDoor
