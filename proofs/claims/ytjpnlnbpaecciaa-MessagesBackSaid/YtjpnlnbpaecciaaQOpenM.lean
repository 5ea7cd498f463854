/- Opening arguments: requests and replies. -/
import Derived.Test.YtjpnlnbpaecciaaQGreat
import Derived.Test.YtjpnlnbpaecciaaQMsgNumbers
import Derived.Test.YtjpnlnbpaecciaaQOpenSg

set_option maxRecDepth 100000
namespace Go.Proofs.Ytjpnlnbpaecciaa
open Go.RowKit Go.Spec Go.Deep
variable {H : Type} {enc : TypeId × Value → H} {w : World} {base : Nat} {spare : Nat → Bool} {held : Bool}
theorem Try.cellsSeal3 : Try.prog.cellsOf 39 = 3 := by kernel_rfl
theorem Try.cellsSigned36 : Try.prog.cellsOf 41 = 36 := by kernel_rfl
theorem Try.cellsRq5 : Try.prog.cellsOf 48 = 5 := by kernel_rfl
theorem Try.cellsRp6 : Try.prog.cellsOf 51 = 6 := by kernel_rfl
theorem Try.cellsErr1 : Try.prog.cellsOf 28 = 1 := by kernel_rfl
theorem Try.cellsSgs1 : Try.prog.cellsOf 24 = 1 := by kernel_rfl
theorem Try.cellsStrs1 : Try.prog.cellsOf 49 = 1 := by kernel_rfl
theorem cells_one {cs : List Value} {k : Nat} (hk : k < cs.length) : (cs.drop k).take 1 = [cs[k]] := by rw [List.drop_eq_getElem_cons hk, List.take_succ_cons, List.take_zero]
theorem open_i64 {t : TypeId} {m : Nat} {v : Value} {x : DataW H × List MemPlace} (ht : Try.prog.underlying t = some (.int .i64)) (h : DataW.trod enc Try.prog w base spare held m t [v] = some x) : ∃ z : Int, v = .int .i64 z ∧ -9223372036854775808 ≤ z ∧ z ≤ 9223372036854775807 := by
  obtain ⟨z, hz, _, hwf⟩ := DataW.trod_int ht h
  injection hz with hz
  exact ⟨z, hz, i64_of_wf hwf⟩
theorem open_signedC (m : Nat) (cs : List Value) (x : DataW H × List MemPlace) (h : DataW.trod enc Try.prog w base spare held m 41 cs = some x) (hl : cs.length = 36) :
    ∃ y : Sg, cs = y.L ∧ SgRaw w y := by
  obtain ⟨xs, n, _, _, _, hlen, hf⟩ := DataW.trod_struct Try.underlying41 h
  have hlen' : xs.length = 2 := hlen
  have h0 : DataW.trod enc Try.prog w base spare held n 36 ((cs.drop 0).take (Try.prog.cellsOf 36)) = xs[0]? := hf 0 _ rfl
  have h1 : DataW.trod enc Try.prog w base spare held n 39 ((cs.drop 33).take (Try.prog.cellsOf 39)) = xs[1]? := hf 1 _ rfl
  rw [List.getElem?_eq_getElem (by omega)] at h0 h1
  simp only [Try.cellsSeal3, Try.cellsHead33, List.drop_zero] at h0 h1
  obtain ⟨hd, hhd, hr32⟩ := open_headC _ _ _ h0 (by rw [List.length_take]; omega)
  have hl3 : ((cs.drop 33).take 3).length = 3 := by rw [List.length_take, List.length_drop]; omega
  obtain ⟨ys, n2, _, _, _, hlen2, hf2⟩ := DataW.trod_struct Try.underlying39 h1
  have hlen2' : ys.length = 3 := hlen2
  have k0 : DataW.trod enc Try.prog w base spare held n2 3 ((((cs.drop 33).take 3).drop 0).take (Try.prog.cellsOf 3)) = ys[0]? := hf2 0 _ rfl
  have k1 : DataW.trod enc Try.prog w base spare held n2 9 ((((cs.drop 33).take 3).drop 1).take (Try.prog.cellsOf 9)) = ys[1]? := hf2 1 _ rfl
  have k2 : DataW.trod enc Try.prog w base spare held n2 37 ((((cs.drop 33).take 3).drop 2).take (Try.prog.cellsOf 37)) = ys[2]? := hf2 2 _ rfl
  rw [List.getElem?_eq_getElem (by omega)] at k0 k1 k2
  simp only [Try.cellsInt1, Try.cellsStr1, Try.cellsHs1] at k0 k1 k2
  rw [cells_one (by omega)] at k0 k1 k2
  obtain ⟨i, hi, _, _⟩ := open_i64 Try.underlying3 k0
  obtain ⟨sg, hs, _, hsl⟩ := DataW.trod_string Try.underlying9 k1
  injection hs with hs
  obtain ⟨l, rfl⟩ := mkS_form sg
  rw [mkS_size] at hsl
  obtain ⟨path, hpl, hpat⟩ := open_hashes Try.underlying37 Try.underlying34 Try.underlying5 Try.cellsU81 Try.cellsHash32 k2
  obtain ⟨a, cap, hpv, _⟩ := hpat.formH
  refine ⟨⟨hd.z, hd.r, i, l, path, a, cap⟩, ?_, ⟨hr32, by rw [hpv] at hpat; exact hpat, by unfold maxLen at hsl; exact hsl, by unfold maxLen at hpl; exact hpl⟩⟩
  have e3 : (cs.drop 33).take 3 = [((cs.drop 33).take 3)[0], ((cs.drop 33).take 3)[1], ((cs.drop 33).take 3)[2]] := by
    apply List.ext_getElem
    · simpa using hl3
    · intro j h1 h2
      match j, h1 with
      | 0, _ => rfl
      | 1, _ => rfl
      | 2, _ => rfl
      | j + 3, h1 => omega
  have e : cs = cs.take 33 ++ (cs.drop 33).take 3 := by
    rw [List.take_of_length_le (l := cs.drop 33) (by rw [List.length_drop]; omega), List.take_append_drop]
  rw [e, hhd, e3, hi, hs, hpv]
  simp [Sg.L, sgA, Hd.L, hdA]
theorem open_sgs {fuel : Nat} {v : Value} {x : DataW H × List MemPlace} (h : DataW.trod enc Try.prog w base spare held fuel 24 [v] = some x) : ∃ ds : List Sg, ds.length ≤ maxLen ∧ SlAt w 36 v (ds.map Sg.L) ∧ ∀ d ∈ ds, SgRaw w d :=
  open_rows Sg.L (fun y : Sg => SgRaw w y) Try.underlying24 Try.cellsSigned36 (by decide) open_signedC h
theorem open_texts {fuel : Nat} {v : Value} {x : DataW H × List MemPlace} (h : DataW.trod enc Try.prog w base spare held fuel 49 [v] = some x) : ∃ es : List (List UInt8), es.length ≤ maxLen ∧ StrsAt w v es ∧ ∀ t ∈ es, t.length ≤ maxLen :=
  open_rows (fun l : List UInt8 => [sv l]) (fun l => l.length ≤ maxLen) Try.underlying49 Try.cellsStr1 (by decide) (fun m cs' x' hx hl => by
    match cs', hl with
    | [c], _ =>
      obtain ⟨sg, hs, _, hsl⟩ := DataW.trod_string Try.underlying9 hx
      injection hs with hs
      obtain ⟨l, rfl⟩ := mkS_form sg
      rw [mkS_size] at hsl
      exact ⟨l, by rw [hs], hsl⟩) h
/-- a request -/
theorem open_rq {r : Reach} {b0 : Nat} {v : Value} {d : DataW H} {p : List MemPlace} (hv : Value.okWide Try.prog w r b0 48 v) (h : DataW.Trod enc Try.prog w base spare held 48 v d p) : ∃ q : Rq, v = q.v ∧ q.I64 := by
  obtain ⟨cs, rfl, hsz⟩ := Go.WideShapes.okWide_struct Try.underlying48 hv
  obtain ⟨fuel, hf⟩ := h
  have hf' : DataW.trod enc Try.prog w base spare held fuel 48 cs.toList = some (d, p) := hf
  rw [Try.cellsRq5] at hsz
  have hl : cs.toList.length = 5 := by simpa using hsz
  obtain ⟨xs, n, _, _, _, hlen, hg⟩ := DataW.trod_struct Try.underlying48 hf'
  have hlen' : xs.length = 5 := hlen
  have part : ∀ i (hi : i < 5), DataW.trod enc Try.prog w base spare held n 3 [cs.toList[i]'(by omega)] = xs[i]? → ∃ z : Int, cs.toList[i]'(by omega) = .int .i64 z ∧ z < 9223372036854775808 := fun i hi h => by
    rw [List.getElem?_eq_getElem (by omega)] at h
    obtain ⟨z, hz, _, h2⟩ := open_i64 Try.underlying3 h
    exact ⟨z, hz, by omega⟩
  have h0 : DataW.trod enc Try.prog w base spare held n 3 ((cs.toList.drop 0).take (Try.prog.cellsOf 3)) = xs[0]? := hg 0 _ rfl
  have h1 : DataW.trod enc Try.prog w base spare held n 3 ((cs.toList.drop 1).take (Try.prog.cellsOf 3)) = xs[1]? := hg 1 _ rfl
  have h2 : DataW.trod enc Try.prog w base spare held n 3 ((cs.toList.drop 2).take (Try.prog.cellsOf 3)) = xs[2]? := hg 2 _ rfl
  have h3 : DataW.trod enc Try.prog w base spare held n 3 ((cs.toList.drop 3).take (Try.prog.cellsOf 3)) = xs[3]? := hg 3 _ rfl
  have h4 : DataW.trod enc Try.prog w base spare held n 3 ((cs.toList.drop 4).take (Try.prog.cellsOf 3)) = xs[4]? := hg 4 _ rfl
  rw [Try.cellsInt1, cells_one (by omega)] at h0 h1 h2 h3 h4
  obtain ⟨z0, e0, b0⟩ := part 0 (by omega) h0
  obtain ⟨z1, e1, b1⟩ := part 1 (by omega) h1
  obtain ⟨z2, e2, b2⟩ := part 2 (by omega) h2
  obtain ⟨z3, e3, b3⟩ := part 3 (by omega) h3
  obtain ⟨z4, e4, b4⟩ := part 4 (by omega) h4
  refine ⟨⟨z0, z1, z2, z3, z4⟩, ?_, ⟨b0, b1, b2, b3, b4⟩⟩
  show Value.agg cs = .agg (Rq.cs ⟨z0, z1, z2, z3, z4⟩)
  congr 1
  apply Array.toList_inj.1
  match hcl : cs.toList, hl with
  | [a, b, c, d, e], _ =>
    simp only [hcl, List.getElem_cons_zero, List.getElem_cons_succ] at e0 e1 e2 e3 e4
    rw [e0, e1, e2, e3, e4]
    rfl
/-- a reply -/
theorem open_rp {r : Reach} {b0 : Nat} {v : Value} {d : DataW H} {p : List MemPlace} (hv : Value.okWide Try.prog w r b0 51 v) (h : DataW.Trod enc Try.prog w base spare held 51 v d p) : ∃ (x : RpK) (vh ve vp : Value) (ds : List Sg), v = .agg (rpC x vh ve vp) ∧ RpRaw w x vh ve vp ds ∧ x.code < 9223372036854775808 := by
  obtain ⟨cs, rfl, hsz⟩ := Go.WideShapes.okWide_struct Try.underlying51 hv
  obtain ⟨fuel, hf⟩ := h
  have hf' : DataW.trod enc Try.prog w base spare held fuel 51 cs.toList = some (d, p) := hf
  rw [Try.cellsRp6] at hsz
  have hl : cs.toList.length = 6 := by simpa using hsz
  obtain ⟨c0, c1, c2, c3, c4, c5, hcl⟩ : ∃ c0 c1 c2 c3 c4 c5, cs.toList = [c0, c1, c2, c3, c4, c5] := by
    match cs.toList, hl with
    | [a, b, c, d, e, f], _ => exact ⟨a, b, c, d, e, f, rfl⟩
  rw [hcl] at hf'
  obtain ⟨xs, n, _, _, _, hlen, hg⟩ := DataW.trod_struct Try.underlying51 hf'
  have hlen' : xs.length = 6 := hlen
  have h0 : DataW.trod enc Try.prog w base spare held n 3 (([c0, c1, c2, c3, c4, c5].drop 0).take (Try.prog.cellsOf 3)) = xs[0]? := hg 0 _ rfl
  have h1 : DataW.trod enc Try.prog w base spare held n 3 (([c0, c1, c2, c3, c4, c5].drop 1).take (Try.prog.cellsOf 3)) = xs[1]? := hg 1 _ rfl
  have h2 : DataW.trod enc Try.prog w base spare held n 28 (([c0, c1, c2, c3, c4, c5].drop 2).take (Try.prog.cellsOf 28)) = xs[2]? := hg 2 _ rfl
  have h3 : DataW.trod enc Try.prog w base spare held n 24 (([c0, c1, c2, c3, c4, c5].drop 3).take (Try.prog.cellsOf 24)) = xs[3]? := hg 3 _ rfl
  have h4 : DataW.trod enc Try.prog w base spare held n 49 (([c0, c1, c2, c3, c4, c5].drop 4).take (Try.prog.cellsOf 49)) = xs[4]? := hg 4 _ rfl
  have h5 : DataW.trod enc Try.prog w base spare held n 37 (([c0, c1, c2, c3, c4, c5].drop 5).take (Try.prog.cellsOf 37)) = xs[5]? := hg 5 _ rfl
  rw [List.getElem?_eq_getElem (by omega)] at h0 h1 h2 h3 h4 h5
  rw [Try.cellsInt1, cells_one (by simp)] at h0 h1
  rw [Try.cellsErr1, cells_one (by simp)] at h2
  rw [Try.cellsSgs1, cells_one (by simp)] at h3
  rw [Try.cellsStrs1, cells_one (by simp)] at h4
  rw [Try.cellsHs1, cells_one (by simp)] at h5
  obtain ⟨z0, e0, _⟩ := open_i64 Try.underlying3 h0
  obtain ⟨z1, e1, _⟩ := open_i64 Try.underlying3 h1
  obtain ⟨z2, e2, _, b2⟩ := open_i64 Try.underlying28 h2
  obtain ⟨ds, l3, s3, r3⟩ := open_sgs h3
  obtain ⟨es, l4, s4, r4⟩ := open_texts h4
  obtain ⟨ps, l5, s5⟩ := open_hashes Try.underlying37 Try.underlying34 Try.underlying5 Try.cellsU81 Try.cellsHash32 h5
  unfold maxLen at l3 l4 l5 r4
  refine ⟨⟨z0, z1, z2, ds.map Sg.k, es, ps⟩, c3, c4, c5, ds, ?_, ⟨s3, r3, rfl, s4, s5, l3, l4, l5, r4⟩, by simp only; omega⟩
  show Value.agg cs = .agg (rpC ⟨z0, z1, z2, ds.map Sg.k, es, ps⟩ c3 c4 c5)
  congr 1
  apply Array.toList_inj.1
  have e0' : c0 = .int .i64 z0 := e0
  have e1' : c1 = .int .i64 z1 := e1
  have e2' : c2 = .int .i64 z2 := e2
  rw [hcl, e0', e1', e2']
  rfl
end Go.Proofs.Ytjpnlnbpaecciaa
