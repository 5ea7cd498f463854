/- A zero array built in a quiet region; pieces of a block; a slice's piece. -/
import Derived.Test.YtbpjlancjdbehaaDoorQAnyOp
import Derived.Test.YtbpjlancjdbehaaDoorQShaLaid

set_option maxRecDepth 100000
namespace Go.Spec
open Go.RowKit
variable {P : Program}
theorem wpQuiet_buildV {C : World → Prop} {Q : Act → Prop} {ops : Array Oper} {rest : List Oper} {o : Oper} {a : Act} (hw : Region.wanted o (yielded ops a.tmps) = true) (t : TypeId) (ho : o.op = .build t #[]) (v : Value)
    (hr : ∀ w, (Instr.build t #[]).run P w = .ok v w) (h : wpQuiet P ops C Q rest (a.put o.dst v)) : wpQuiet P ops C Q (o :: rest) a :=
  wpQuiet_step fun K hK => by
    rw [if_pos hw]
    refine ⟨v, fun w' _ => ?_, hK _ h⟩
    unfold Oper.quietAt execOp
    simp only [ho, List.map_toArray, List.map_nil, Sem.run_bind, Sem.run_pure, Result.andThen_ok, hr]
    exact ⟨rfl, rfl⟩
/-- a row of bytes, loaded, guarded or not -/
theorem wpQuiet_load_hcG {C : World → Prop} {Q : Act → Prop} {ops : Array Oper} {rest : List Oper} {o : Oper} {a : Act} (hw : Region.wanted o (yielded ops a.tmps) = true) (ty : TypeId) (x : Operand) (ho : o.op = .load ty x)
    (ad : Addr) (hx : a.eval x = .pointer (some ad)) (l : List UInt8) (d : TypeDesc) (hc : ∀ w', C w' → ∀ j v, (l.map bcell)[j]? = some v → w'.cell? (ad.add j) = some v)
    (hu : P.underlying ty = some d) (hd : (match d with | .struct _ | .array _ _ => true | _ => false) = true) (hi : (P.info? ty).map (·.size) = some l.length)
    (h : wpQuiet P ops C Q rest (a.put o.dst (hv l))) : wpQuiet P ops C Q (o :: rest) a :=
  wpQuiet_step fun K hK => by
    rw [if_pos hw]
    refine ⟨hv l, fun w' hw' => ?_, hK _ h⟩
    have hr := run_loadVar_agg (P := P) (w := w') ty ad (l.map bcell) d (hc w' hw') hu hd (by simpa using hi)
    unfold Oper.quietAt execOp
    simp only [ho, hx, Instr.loadAt, Instr.sureAddr, Sem.run_bind, Sem.run_pure, Result.andThen_ok, hr]
    exact ⟨rfl, rfl⟩
/-- a variable of one cell, loaded -/
theorem wpQuiet_load_one {C : World → Prop} {Q : Act → Prop} {ops : Array Oper} {rest : List Oper} {o : Oper} {a : Act} (hw : Region.wanted o (yielded ops a.tmps) = true) (ty : TypeId) (x : Operand) (ho : o.op = .load ty x)
    (ad : Addr) (hx : a.eval x = .pointer (some ad)) (v : Value) (d : TypeDesc) (hc : ∀ w', C w' → w'.cell? ad = some v)
    (hu : P.underlying ty = some d) (hd : (match d with | .struct _ | .array _ _ => true | _ => false) = false)
    (h : wpQuiet P ops C Q rest (a.put o.dst v)) : wpQuiet P ops C Q (o :: rest) a :=
  wpQuiet_step fun K hK => by
    rw [if_pos hw]
    refine ⟨v, fun w' hw' => ?_, hK _ h⟩
    have hagg : (isAgg ty).run P w' = .ok false w' := by
      unfold isAgg
      rw [Sem.run_bind, run_underlying hu w']
      cases d <;> simp_all
    have hl : (load ad).run P w' = .ok v w' := by
      show (Sem.load Mode.plain ad Sem.pure).run P w' = _
      unfold Sem.run
      simp [hc w' hw', Sem.run, go_sem]
    unfold Oper.quietAt execOp
    simp only [ho, hx, Instr.loadAt, Instr.sureAddr, Sem.run_bind, Sem.run_pure, Result.andThen_ok, loadVar, hagg, Bool.false_eq_true, if_false, hl]
    exact ⟨rfl, rfl⟩
theorem run_storeVar_one {w : World} (ty : TypeId) (g : Nat) (old : Value) (t : TypeId) (v : Value) (hg : Blk w g #[old] t) (hi : (P.info? ty).map (·.size) = some 1) (hv : v.cells = #[v]) (h1 : v.oneCell' = true) :
    (storeVar ty ⟨g, 0, none⟩ v).run P w = .ok () (w.setRow g #[v]) := by
  have hst := run_storeCells_at P g 0 t [v] 0 #[old] w hg (by simp) (by simpa using h1)
  simp at hst
  cases hq : P.info? ty with
  | none => simp [hq] at hi
  | some i =>
    have hs : i.size = 1 := by simpa [hq] using hi
    simp [storeVar, Sem.run_bind, sizeOf, typeInfo, hq, hs, hst, hv]
/-- a variable of one cell, stored into, whatever the value -/
theorem wpList_store_one {w : World} {ops : Array Oper} {rest : List Oper} {o : Oper} {a : Act} {Q : Exit → Act → World → Prop} (hgd : o.guard = none) (ty : TypeId) (x y : Operand) (ho : o.op = .store ty x y)
    (g : Nat) (hx : a.eval x = .pointer (some ⟨g, 0, none⟩)) (v : Value) (hy : a.eval y = v) (old : Value) (t : TypeId) (hg : Blk w g #[old] t) (hi : (P.info? ty).map (·.size) = some 1) (hv : v.cells = #[v]) (h1 : v.oneCell' = true)
    (h : wpList P ops Q rest (a.put o.dst undef) (w.setRow g #[v])) : wpList P ops Q (o :: rest) a w :=
  wpList_plain hgd fun _ hK => by
    have hr := run_storeVar_one (P := P) (w := w) ty g old t v hg hi hv h1
    unfold Oper.wp execOp
    simp only [ho, hx, hy, Instr.storeAt, Instr.sureAddr, Sem.run_bind, Sem.run_pure, Result.andThen_ok, hr]
    exact hK _ _ h
theorem wpList_store_oneW {w : World} {ops : Array Oper} {rest : List Oper} {o : Oper} {a : Act} {Q : Exit → Act → World → Prop} (hgd : o.guard = none) (ty : TypeId) (x y : Operand) (ho : o.op = .store ty x y)
    (g : Nat) (hx : a.eval x = .pointer (some ⟨g, 0, none⟩)) (v : Value) (hy : a.eval y = v) (old : Value) (t : TypeId) (hg : Blk w g #[old] t) (hi : (P.info? ty).map (·.size) = some 1) (hv : v.cells = #[v]) (h1 : v.oneCell' = true)
    (w' : World) (hw' : w.setRow g #[v] = w') (h : wpList P ops Q rest (a.put o.dst undef) w') : wpList P ops Q (o :: rest) a w := by
  subst hw'
  exact wpList_store_one hgd ty x y ho g hx v hy old t hg hi hv h1 h
/-- a part of a block, as a row of bytes -/
theorem Blk.part {w : World} {g : Nat} {cs : Array Value} {t : TypeId} (h : Blk w g cs t) (o : Nat) (l : List UInt8) (hl : ∀ j (hj : j < l.length), cs[o + j]? = some (bcell l[j])) : ∀ j u, (l.map bcell)[j]? = some u → w.cell? ((⟨g, o, none⟩ : Addr).add j) = some u := by
  intro j u hu
  have hj : j < l.length := by
    have := (List.getElem?_eq_some_iff.1 hu).1
    simpa using this
  rw [Addr.add_lit, h.cell, hl j hj]
  rw [List.getElem?_map, List.getElem?_eq_getElem hj] at hu
  exact hu
theorem hc_part1 (a b : List UInt8) : ∀ j (hj : j < a.length), (hc (a ++ b))[0 + j]? = some (bcell a[j]) := by
  intro j hj
  rw [Nat.zero_add, hc_get (a ++ b) j (by simp; omega), List.getElem_append_left hj]
theorem hc_part2 (a b : List UInt8) (ha : a.length = 32) : ∀ j (hj : j < b.length), (hc (a ++ b))[32 + j]? = some (bcell b[j]) := by
  intro j hj
  rw [hc_get (a ++ b) (32 + j) (by simp; omega), List.getElem_append_right (by omega)]
  congr 2
  simp only [ha]
  congr 1
  omega
end Go.Spec
namespace Go.Proofs.YtbpjlancjdbehaaDoor
open Go.RowKit Go.Spec
theorem Tryd.zeroHash (w : World) : (Instr.build 29 #[]).run Tryd.prog w = .ok (hv zero32) w := by kernel_rfl
end Go.Proofs.YtbpjlancjdbehaaDoor
