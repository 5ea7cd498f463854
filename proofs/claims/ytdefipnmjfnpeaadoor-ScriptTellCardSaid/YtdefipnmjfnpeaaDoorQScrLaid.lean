/- What the listed variables give the walks of script. -/
import Derived.Test.YtdefipnmjfnpeaaDoorQScrWorld
import Derived.Test.YtdefipnmjfnpeaaDoorRows
import Derived.Test.YtdefipnmjfnpeaaDoorChecked
import Derived.Lib.LaidTab
import Derived.LaidMore
import Derived.Lay
import Derived.OpenShut
import Derived.Stop.Joined
import Derived.Stop.LaidErr
import Derived.Shelf.Strings.SplitShaped
set_option maxRecDepth 100000
namespace Go.Proofs.YtdefipnmjfnpeaaDoor
open Go.ChangeShapes Go.WideShapes Go.ChangeAt Go.RowKit Go.Spec
def laidScr : List (String × DataW Unit) := [("math/bits.deBruijn32tab", Rows.laid_math_bits_deBruijn32tab), ("math/bits.deBruijn64tab", Rows.laid_math_bits_deBruijn64tab), ("internal/strconv.uint64pow10", Rows.laid_internal_strconv_uint64pow10), ("unicode/utf8.acceptRanges", Rows.laid_unicode_utf8_acceptRanges), ("strconv.ErrRange", Rows.laid_strconv_ErrRange), ("strconv.ErrSyntax", Rows.laid_strconv_ErrSyntax), ("speculum/script.table", Rows.laid_speculum_script_table), ("unicode/utf8.first", Rows.laid_unicode_utf8_first)]
theorem Tryd.own : ownKnob Tryd.prog.godebug = none := by kernel_rfl
theorem Tryd.laidOut : laidOutB Tryd.prog = true := by kernel_rfl
theorem gPow : Tryd.prog.globalNamed "internal/strconv.uint64pow10" = some 4 := by kernel_rfl
theorem gTab : Tryd.prog.globalNamed "speculum/script.table" = some 0 := by kernel_rfl
theorem gSyn : Tryd.prog.globalNamed "strconv.ErrSyntax" = some 2 := by kernel_rfl
theorem gRng : Tryd.prog.globalNamed "strconv.ErrRange" = some 3 := by kernel_rfl
theorem tPow : (Tryd.prog.globals[4]?).map (·.type) = some 112 := by kernel_rfl
theorem tTab : (Tryd.prog.globals[0]?).map (·.type) = some 60 := by kernel_rfl
theorem tSyn : (Tryd.prog.globals[2]?).map (·.type) = some 54 := by kernel_rfl
theorem tRng : (Tryd.prog.globals[3]?).map (·.type) = some 54 := by kernel_rfl
theorem cU64 : Tryd.prog.cellsOf 95 = 1 := by kernel_rfl
theorem c20 : Tryd.prog.cellsOf 112 = 20 := by kernel_rfl
theorem c42 : Tryd.prog.cellsOf 60 = 42 := by kernel_rfl
theorem c3u : Tryd.prog.cellsOf 59 = 3 := by kernel_rfl
theorem door_met (os : Os) (args : Array Value) : laidMetH Tryd.prog laidScr ((World.laidAll Tryd.prog os laidScr).forCall (fun _ _ => 0) ⟨#[], args, []⟩).memory := by
  rw [MakeChecks.laidMetH_plain _ _ _ (by kernel_rfl)]
  exact laidMet_laidAll _ (by kernel_rfl) (by kernel_rfl)
theorem powData : Rows.laid_internal_strconv_uint64pow10 (H := Unit) = Lib.tabData .u64 Lib.pow10Tab := rfl
def usesD (k : Nat) : DataW Unit := .agg [.lit (.string (wordT k)), .lit (.int .i64 (numsT k : Nat)), .lit (.bool (textT k))]
theorem tabDataS : Rows.laid_speculum_script_table (H := Unit) = .agg ((List.range 14).map usesD) := rfl
theorem star_err : "*" ++ "errors.errorString" = "*errors.errorString" := by decide
theorem rowErr (u : TypeId) (h : Tryd.prog.typeName? 3 u = some "*errors.errorString") : u = 116 :=
  typeName_ptr_named (nm := "errors.errorString") (by rw [star_err]; kernel_rfl) (by kernel_rfl) (by decide) u (by rw [star_err]; exact h)
theorem uses_read {enc : TypeId × Value → Unit} {w : World} {base : Nat} {sp : Nat → Bool} {held : Bool} {fuel : Nat} {cs : List Value} {x : DataW Unit × List MemPlace} {k : Nat}
    (h : DataW.trod enc Tryd.prog w base sp held fuel 59 cs = some x) (hx : x.1 = usesD k) : cs = [sv (wordT k), .int .i64 (numsT k : Nat), .bool (textT k)] := by
  obtain ⟨xs, n, _, hxe, hl, hlen, hf⟩ := DataW.trod_struct Tryd.underlying59 h
  have hlen' : xs.length = 3 := hlen
  rw [c3u] at hl
  have h0 : DataW.trod enc Tryd.prog w base sp held n 9 ((cs.drop 0).take (Tryd.prog.cellsOf 9)) = xs[0]? := hf 0 _ rfl
  have h1 : DataW.trod enc Tryd.prog w base sp held n 3 ((cs.drop 1).take (Tryd.prog.cellsOf 3)) = xs[1]? := hf 1 _ rfl
  have h2 : DataW.trod enc Tryd.prog w base sp held n 4 ((cs.drop 2).take (Tryd.prog.cellsOf 4)) = xs[2]? := hf 2 _ rfl
  rw [show Tryd.prog.cellsOf 9 = 1 by kernel_rfl] at h0
  rw [show Tryd.prog.cellsOf 3 = 1 by kernel_rfl] at h1
  rw [show Tryd.prog.cellsOf 4 = 1 by kernel_rfl] at h2
  match xs, hlen' with
  | [y0, y1, y2], _ =>
    match cs, hl with
    | [c0, c1, c2], _ =>
      simp only [List.drop_zero, List.take_succ_cons, List.take_zero, List.drop_succ_cons, List.getElem?_cons_zero, List.getElem?_cons_succ] at h0 h1 h2
      obtain ⟨s, e0, d0, _⟩ := DataW.trod_string Tryd.underlying9 h0
      obtain ⟨m, e1, d1, _⟩ := DataW.trod_int Tryd.underlying3 h1
      obtain ⟨b, e2, d2⟩ := DataW.trod_bool Tryd.underlying4 h2
      injection e0 with e0; injection e1 with e1; injection e2 with e2
      subst e0; subst e1; subst e2; subst d0; subst d1; subst d2
      rw [hxe] at hx
      simp only [List.map_cons, List.map_nil, usesD, DataW.agg.injEq, List.cons.injEq, DataW.lit.injEq, Lit.string.injEq, Lit.int.injEq, Lit.bool.injEq, true_and, and_true] at hx
      obtain ⟨a1, a2, a3⟩ := hx
      have es : s = mkS (wordT k) := by rw [← a1]; simp [mkS]
      rw [es, a2, a3]
theorem tab_cells {W : World} {rest : List (String × DataW Unit)} (h : laidMet Tryd.prog (("speculum/script.table", .agg ((List.range 14).map usesD)) :: rest) W) (k : Nat) (hk : k < 14) :
    W.cell? ⟨0, 3 * k, none⟩ = some (sv (wordT k)) ∧ W.cell? ⟨0, 3 * k + 1, none⟩ = some (.int .i64 (numsT k : Nat)) ∧ W.cell? ⟨0, 3 * k + 2, none⟩ = some (.bool (textT k)) := by
  obtain ⟨ps, ⟨g', t', cs, fuel, p, q, hg', ht', hvar, hd, _, _⟩, _⟩ := h
  obtain rfl := Option.some.inj (gTab.symm.trans hg')
  obtain rfl := Option.some.inj (tTab.symm.trans ht')
  obtain ⟨xs, n, _, hxe, hl, hlen, hf⟩ := DataW.trod_array Tryd.underlying60 hd
  have hk' : k < xs.length := by rw [hlen]; exact hk
  have hx : (xs[k]).1 = usesD k := by
    have := congrArg Prod.fst hxe
    simp only [DataW.agg.injEq] at this
    have h2 := congrArg (·[k]?) this
    simp only [List.getElem?_map, List.getElem?_range hk, Option.map_some, List.getElem?_eq_getElem hk'] at h2
    exact (Option.some.inj h2).symm
  have hr := hf k hk
  rw [List.getElem?_eq_getElem hk', c3u] at hr
  have hc := uses_read hr hx
  have key : ∀ j v, [sv (wordT k), Value.int .i64 (numsT k : Nat), .bool (textT k)][j]? = some v → W.cell? ⟨0, 3 * k + j, none⟩ = some v := fun j v hj => by
    have h3 : j < 3 := by
      have := (List.getElem?_eq_some_iff.1 hj).1
      simpa using this
    rw [← hc, List.getElem?_take_of_lt h3, List.getElem?_drop] at hj
    have := World.var?_cell gTab hvar (3 * k + j)
    rw [this, Nat.mul_comm 3 k]
    simpa using hj
  exact ⟨key 0 _ rfl, key 1 _ rfl, key 2 _ rfl⟩
theorem scr_of_laid {W : World} (hs : W.ShapedOpen Tryd.prog) (h : laidMetH Tryd.prog laidScr W) : ScrG W := by
  rw [MakeChecks.laidMetH_plain _ _ _ (by kernel_rfl)] at h
  have h3 := h.tail.tail
  have h5 := h3.tail.tail
  have h6 := h5.tail
  have h7 := h6.tail
  have hpow : Lib.TabIs Tryd.prog W "internal/strconv.uint64pow10" .u64 Lib.pow10Tab := Lib.tabIs_of_head gPow tPow Tryd.underlying112 Tryd.underlying95 cU64 c20 h3
  have cE : Tryd.prog.cellsOf 118 = 1 := by kernel_rfl
  have cS : Tryd.prog.cellsOf 9 = 1 := by kernel_rfl
  obtain ⟨a0, s0, hv0, -, -, -⟩ := laid_sentinel h5 gRng tRng Tryd.underlying54 rowErr Tryd.underlying116 Tryd.underlying118 rfl rfl Tryd.underlying9 cE cS
  obtain ⟨a1, s1, hv1, -, -, -⟩ := laid_sentinel h6 gSyn tSyn Tryd.underlying54 rowErr Tryd.underlying116 Tryd.underlying118 rfl rfl Tryd.underlying9 cE cS
  have hmax := Tryd.laysM146.s1_3 W hs
  exact ⟨World.block_lt_of_cell? W _ (tab_cells h7 0 (by decide)).1, fun k hk => (tab_cells h7 k hk).1, fun k hk => (tab_cells h7 k hk).2.1, fun k hk => (tab_cells h7 k hk).2.2, hpow, hmax, ⟨_, _, hv1⟩, ⟨_, _, hv0⟩⟩
end Go.Proofs.YtdefipnmjfnpeaaDoor
