/- General lemmas on arrays of bytes by value (hashes): loading, storing, comparing, copying into them. -/
import Derived.Test.YtjpnlnbpaecciaaBase
namespace Go.Spec
open Go.RowKit
/-- bytes as the cells of an array -/
def hc (h : List UInt8) : Array Value := (h.map bcell).toArray
abbrev hv (h : List UInt8) : Value := .agg (hc h)
@[go_sem] theorem hc_size (h : List UInt8) : (hc h).size = h.length := by simp [hc]
theorem hc_toList (h : List UInt8) : (hc h).toList = h.map bcell := by simp [hc]
theorem hc_get (h : List UInt8) (i : Nat) (hi : i < h.length) : (hc h)[i]? = some (bcell h[i]) := by simp [hc, hi]
theorem bcell_inj {a b : UInt8} (h : bcell a = bcell b) : a = b := by
  unfold bcell at h
  injection h with _ h
  exact UInt8.toNat_inj.1 (by omega)
theorem hc_inj {a b : List UInt8} (h : hc a = hc b) : a = b := by
  unfold hc at h
  have := List.toArray_inj h
  exact (List.map_inj_right (fun _ _ => bcell_inj)).1 this
theorem cell_at_row {w : World} {g : Nat} {cs : Array Value} {t : TypeId} {fr : Nat × Nat} (hg : w.heap[g]? = some (.cells cs t fr)) (j : Nat) : w.cell? ((⟨g, 0, none⟩ : Addr).add j) = cs[j]? := by
  rw [Addr.add_lit, cell_of_row w g _ cs t fr hg]; simp
variable {P : Program} {w : World}
theorem run_loadVar_agg (ty : TypeId) (ad : Addr) (cs : List Value) (d : TypeDesc) (hc : ∀ j v, cs[j]? = some v → w.cell? (ad.add j) = some v)
    (hu : P.underlying ty = some d) (hd : (match d with | .struct _ | .array _ _ => true | _ => false) = true) (hi : (P.info? ty).map (·.size) = some cs.length) :
    (loadVar ty ad).run P w = .ok (.agg cs.toArray) w := by
  have hl : (loadCells ad cs.length).run P w = .ok cs.toArray w := run_loadCells_list (P := P) w ad cs hc
  cases hq : P.info? ty with
  | none => simp [hq] at hi
  | some i =>
    have hs : i.size = cs.length := by simpa [hq] using hi
    have hagg : (isAgg ty).run P w = .ok true w := by
      unfold isAgg
      rw [Sem.run_bind, run_underlying hu w]
      cases d <;> simp_all
    simp [loadVar, Sem.run_bind, hagg, sizeOf, typeInfo, hq, hs, hl]
/-- a whole array or struct, loaded -/
theorem wpList_load_agg {ops : Array Oper} {rest : List Oper} {o : Oper} {a : Act} {Q : Exit → Act → World → Prop} (hgd : o.guard = none) (ty : TypeId) (x : Operand) (ho : o.op = .load ty x)
    (ad : Addr) (hx : a.eval x = .pointer (some ad)) (cs : List Value) (d : TypeDesc) (hc : ∀ j v, cs[j]? = some v → w.cell? (ad.add j) = some v)
    (hu : P.underlying ty = some d) (hd : (match d with | .struct _ | .array _ _ => true | _ => false) = true) (hi : (P.info? ty).map (·.size) = some cs.length)
    (h : wpList P ops Q rest (a.put o.dst (.agg cs.toArray)) w) : wpList P ops Q (o :: rest) a w :=
  wpList_plain hgd fun _ hK => by
    unfold Oper.wp execOp
    simp only [ho, hx, Instr.loadAt, Instr.sureAddr, Sem.run_bind, Sem.run_pure, Result.andThen_ok, run_loadVar_agg ty ad cs d hc hu hd hi]
    exact hK _ _ h
theorem setRow_get {g : Nat} {cur cs : Array Value} {t : TypeId} {fr : Nat × Nat} (hg : w.heap[g]? = some (.cells cur t fr)) : (w.setRow g cs).heap[g]? = some (.cells cs t fr) := by
  simp [World.setRow, Array.getElem?_modify, hg]
theorem setRow_ne {g k : Nat} {cs : Array Value} (h : k ≠ g) : (w.setRow g cs).heap[k]? = w.heap[k]? := by
  simp [World.setRow, Array.getElem?_modify]; intro h'; exact absurd h'.symm h
theorem setRow_size' {g : Nat} {cs : Array Value} : (w.setRow g cs).heap.size = w.heap.size := by simp [World.setRow]
theorem _root_.Go.RowKit.Below.setRow {B : Nat} {a : World} (h : Below B a w) {g : Nat} (hg : B ≤ g) (cs : Array Value) : Below B a (w.setRow g cs) :=
  h.trans ⟨rfl, rfl, rfl, by simp [World.setRow], fun k hk => setRow_ne (by omega)⟩
/-- a store of a whole array into a whole block -/
theorem run_storeVar_row (ty : TypeId) (g : Nat) (cur : Array Value) (t : TypeId) (cs : List Value) (hg : w.heap[g]? = some (.cells cur t (0, 0))) (hl : cs.length = cur.size)
    (hi : (P.info? ty).map (·.size) = some cs.length) (h1 : ∀ v ∈ cs, v.oneCell' = true) :
    (storeVar ty ⟨g, 0, none⟩ (.agg cs.toArray)).run P w = .ok () (w.setRow g cs.toArray) := by
  have hst := run_storeCells_at P g 0 t cs 0 cur w hg (by omega) h1
  have hdrop : List.drop cs.length cur.toList = [] := List.drop_eq_nil_of_le (by simp; omega)
  simp only [Nat.zero_add, Nat.add_zero, List.take_zero, List.nil_append, hdrop, List.append_nil] at hst
  cases hq : P.info? ty with
  | none => simp [hq] at hi
  | some i =>
    have hs : i.size = cs.length := by simpa [hq] using hi
    have hcs : (Value.agg cs.toArray).cells = cs.toArray := rfl
    simp [storeVar, Sem.run_bind, sizeOf, typeInfo, hq, hs, hst, hcs]
theorem wpList_store_hc {ops : Array Oper} {rest : List Oper} {o : Oper} {a : Act} {Q : Exit → Act → World → Prop} (hgd : o.guard = none) (ty : TypeId) (x y : Operand) (ho : o.op = .store ty x y)
    (g : Nat) (hx : a.eval x = .pointer (some ⟨g, 0, none⟩)) (l : List UInt8) (hy : a.eval y = hv l) (cur : Array Value) (t : TypeId) (hg : w.heap[g]? = some (.cells cur t (0, 0))) (hl : l.length = cur.size)
    (hi : (P.info? ty).map (·.size) = some l.length)
    (h : wpList P ops Q rest (a.put o.dst undef) (w.setRow g (hc l))) : wpList P ops Q (o :: rest) a w :=
  wpList_plain hgd fun _ hK => by
    have hr := run_storeVar_row (P := P) (w := w) ty g cur t (l.map bcell) hg (by simpa using hl) (by simpa using hi) (bcell_one l)
    have hy' : a.eval y = .agg (l.map bcell).toArray := hy
    unfold Oper.wp execOp
    simp only [ho, hx, hy', Instr.storeAt, Instr.sureAddr, Sem.run_bind, Sem.run_pure, Result.andThen_ok, hr]
    exact hK _ _ h
theorem wpList_store_row {ops : Array Oper} {rest : List Oper} {o : Oper} {a : Act} {Q : Exit → Act → World → Prop} (hgd : o.guard = none) (ty : TypeId) (x y : Operand) (ho : o.op = .store ty x y)
    (g : Nat) (hx : a.eval x = .pointer (some ⟨g, 0, none⟩)) (cs : List Value) (hy : a.eval y = .agg cs.toArray) (cur : Array Value) (t : TypeId) (hg : w.heap[g]? = some (.cells cur t (0, 0))) (hl : cs.length = cur.size)
    (hi : (P.info? ty).map (·.size) = some cs.length) (h1 : ∀ v ∈ cs, v.oneCell' = true)
    (h : wpList P ops Q rest (a.put o.dst undef) (w.setRow g cs.toArray)) : wpList P ops Q (o :: rest) a w :=
  wpList_plain hgd fun _ hK => by
    unfold Oper.wp execOp
    simp only [ho, hx, hy, Instr.storeAt, Instr.sureAddr, Sem.run_bind, Sem.run_pure, Result.andThen_ok, run_storeVar_row ty g cur t cs hg hl hi h1]
    exact hK _ _ h
/-- 'copy(h[o:], s)' of a string into a row of bytes -/
theorem run_copy_string (dT sT ty elem : TypeId) (g o dLen dCap : Nat) (cur : Array Value) (t : TypeId) (l : List UInt8)
    (hu : P.underlying dT = some (.slice elem)) (hs : (P.info? elem).map (·.size) = some 1)
    (hg : w.heap[g]? = some (.cells cur t (0, 0))) (hfit : o + dLen ≤ cur.size) :
    (Builtin.copy_ #[dT, sT] ty #[.slice (some ⟨g, o, none⟩) dLen dCap, .string (mkS l)]).run P w =
      .ok (goInt (Nat.min l.length dLen)) (w.setRow g (cur.toList.take o ++ (l.take dLen).map bcell ++ cur.toList.drop (o + (l.take dLen).length)).toArray) := by
  have hst := run_storeCells_at P g o t ((l.take dLen).map bcell) 0 cur w hg (by simp; omega) (bcell_one _)
  simp only [Nat.add_zero, List.length_map] at hst
  have hx : Array.map (fun b : UInt8 => Value.int .u8 (b.toNat : Int)) ((mkS l).extract 0 (Nat.min l.length dLen)).data = ((l.take dLen).map bcell).toArray := by
    rw [mkS_extract]
    have : (mkS (List.drop 0 (List.take (Nat.min l.length dLen) l))).data = (List.take (Nat.min l.length dLen) l).toArray := rfl
    rw [this, List.take_eq_take_iff.2 (show min (Nat.min l.length dLen) l.length = min dLen l.length by rw [show Nat.min l.length dLen = min l.length dLen from rfl]; omega)]
    simp
    rfl
  generalize (List.map bcell (List.take dLen l)) = X at hst hx ⊢
  generalize (List.take dLen l).length = y at hst ⊢
  cases hq : P.info? elem with
  | none => simp [hq] at hs
  | some i =>
    have hi : i.size = 1 := by simpa [hq] using hs
    simp only [Builtin.copy_, run_underlying hu, Builtin.lenOf, Builtin.firstCells, sizeOf, typeInfo, hq, hi, Sem.run_bind, Sem.run_pure, Result.andThen_ok, mkS_size, hx, run_program, List.getElem?_toArray, List.getElem?_cons_zero, List.getElem?_cons_succ]
    simp [hst]
/-- the same in a walk -/
theorem wpList_copy_string {ops : Array Oper} {rest : List Oper} {o : Oper} {a : Act} {Q : Exit → Act → World → Prop} (hgd : o.guard = none) (x y : Operand) (dT sT elem : TypeId)
    (ho : o.op = .call { callee := .builtin .copy, args := #[x, y], argTypes := #[dT, sT] })
    (g off dLen dCap : Nat) (hx : a.eval x = .slice (some ⟨g, off, none⟩) dLen dCap) (l : List UInt8) (hy : a.eval y = sv l) (cur : Array Value) (t : TypeId)
    (hu : P.underlying dT = some (.slice elem)) (hs : (P.info? elem).map (·.size) = some 1)
    (hg : w.heap[g]? = some (.cells cur t (0, 0))) (hfit : off + dLen ≤ cur.size)
    (new : Array Value) (hnew : (cur.toList.take off ++ (l.take dLen).map bcell ++ cur.toList.drop (off + (l.take dLen).length)).toArray = new)
    (h : wpList P ops Q rest (a.put o.dst (goInt (Nat.min l.length dLen))) (w.setRow g new)) : wpList P ops Q (o :: rest) a w :=
  wpList_plain hgd fun _ hK => by
    subst hnew
    unfold Oper.wp execOp
    have hr := run_copy_string (P := P) (w := w) dT sT o.type elem g off dLen dCap cur t l hu hs hg hfit
    simp only [ho, resolve, invoke, builtin, Sem.run_bind, Sem.run_pure, Result.andThen_ok, List.map_toArray, List.map_cons, List.map_nil, hx, hy, hr]
    exact hK _ _ h
/-- two arrays of bytes, compared -/
theorem run_equalIn_hc (d n : Nat) (t e : TypeId) (a b : List UInt8) (ht : P.underlying t = some (.array n e)) (he : P.underlying e = some (.int .u8)) (hs : (P.info? e).map (·.size) = some 1)
    (ha : a.length = n) (hb : b.length = n) : (Op.equalIn (d + 2) t (.agg (hc a)) (.agg (hc b))).run P w = .ok (a == b) w := by
  cases hq : P.info? e with
  | none => simp [hq] at hs
  | some i =>
    have hi : i.size = 1 := by simpa [hq] using hs
    have hpart : ∀ (c : List UInt8) (k : Nat) (hk : k < c.length), (part e (hc c) k).run P w = .ok (bcell c[k]) w := by
      intro c k hk
      have hnot : (isAgg e).run P w = .ok false w := by unfold isAgg; rw [Sem.run_bind, run_underlying he w]; simp
      simp [part, Sem.run_bind, hnot, hc_get c k hk]
    have hstep : ∀ (x y : UInt8), (Op.equalIn (d + 1) e (bcell x) (bcell y)).run P w = .ok (x == y) w := by
      intro x y
      rw [bcell, bcell, run_equalIn_int w d e .u8 .u8 _ _ he]
      congr 1
      rw [Bool.eq_iff_iff]; simp only [beq_iff_eq]
      exact ⟨fun h => UInt8.toNat_inj.1 (by omega), fun h => by rw [h]⟩
    rw [Op.equalIn]
    simp only [Sem.run_bind, run_underlying ht, Result.andThen_ok, sizeOf, typeInfo, run_program, hq, hi, Sem.run_pure, Nat.mul_one]
    rw [Std.Legacy.Range.forIn_eq_forIn_range']
    have hloop : ∀ (m k : Nat), k + m = n →
        (forIn (List.range' k m 1) ((none : Option Bool), ()) fun i __s => do
            let x ← part e (hc a) i
            let y ← part e (hc b) i
            let r ← Op.equalIn (d + 1) e x y
            if (!r) = true then pure (ForInStep.done (some false, ())) else pure (ForInStep.yield (none, ())) : Sem (Option Bool × Unit)).run P w
          = .ok (if a.drop k == b.drop k then ((none : Option Bool), ()) else (some false, ())) w := by
      intro m
      induction m with
      | zero =>
        intro k hk
        rw [List.drop_eq_nil_of_le (by omega), List.drop_eq_nil_of_le (by omega)]
        simp [List.range'_zero]
      | succ m ih =>
        intro k hk
        rw [List.range'_succ, List.forIn_cons]
        simp only [Sem.run_bind, hpart a k (by omega), hpart b k (by omega), hstep, Result.andThen_ok]
        have hdk : (a.drop k == b.drop k) = (a[k] == b[k] && (a.drop (k + 1) == b.drop (k + 1))) := by
          rw [List.drop_eq_getElem_cons (show k < a.length by omega), List.drop_eq_getElem_cons (show k < b.length by omega)]; rfl
        rw [hdk]
        by_cases hxy : a[k] = b[k]
        · have hb : (a[k] == b[k]) = true := by simpa using hxy
          simp only [hb, Bool.not_true, Bool.false_eq_true, if_false, Sem.run_pure, Result.andThen_ok]
          rw [ih (k + 1) (by omega), Bool.true_and]
        · have hb : (a[k] == b[k]) = false := by simpa using hxy
          simp only [hb, Bool.not_false, if_true, Sem.run_pure, Result.andThen_ok, Bool.false_and, Bool.false_eq_true, if_false]
    have h0 := hloop n 0 (by omega)
    simp only [List.drop_zero] at h0
    simp only [Std.Legacy.Range.size, Nat.sub_zero, Nat.add_sub_cancel, Nat.div_one]
    rw [h0]
    by_cases hab : a = b
    · simp [hab]
    · simp [hab]
@[go_sem] theorem run_equalIn_hash (t e : TypeId) (a b : List UInt8) (ht : P.underlying t = some (.array 32 e)) (he : P.underlying e = some (.int .u8)) (hs : (P.info? e).map (·.size) = some 1)
    (ha : a.length = 32) (hb : b.length = 32) : (Op.equalIn 10000 t (.agg (hc a)) (.agg (hc b))).run P w = .ok (a == b) w := run_equalIn_hc 9998 32 t e a b ht he hs ha hb
/-- results whose first one is an array or a struct in a block of its own -/
theorem results_cell3 {fn : Func} {p q r : Tmp} {ty : TypeId} (h : fn.results = #[.cell p ty, .tmp q, .tmp r]) (tmps : Array Value) (g : Nat) (t : TypeId) (cs : Array Value) (fr : Nat × Nat) (d : TypeDesc)
    (hp : tmps.getD p undef = .pointer (some ⟨g, 0, none⟩)) (hg : w.heap[g]? = some (.cells cs t fr))
    (hu : P.underlying ty = some d) (hd : (match d with | .struct _ | .array _ _ => true | _ => false) = true) (hi : (P.info? ty).map (·.size) = some cs.size) :
    (results fn tmps).run P w = .ok (.tuple #[.agg cs, tmps.getD q undef, tmps.getD r undef]) w := by
  have hp' : tmps[p]?.getD undef = .pointer (some ⟨g, 0, none⟩) := by simpa using hp
  simp [results, h, hp', asAddr, run_loadVar_row w g t ty cs fr d hg hu hd hi]
theorem results_cell2 {fn : Func} {p q : Tmp} {ty : TypeId} (h : fn.results = #[.cell p ty, .tmp q]) (tmps : Array Value) (g : Nat) (t : TypeId) (cs : Array Value) (fr : Nat × Nat) (d : TypeDesc)
    (hp : tmps.getD p undef = .pointer (some ⟨g, 0, none⟩)) (hg : w.heap[g]? = some (.cells cs t fr))
    (hu : P.underlying ty = some d) (hd : (match d with | .struct _ | .array _ _ => true | _ => false) = true) (hi : (P.info? ty).map (·.size) = some cs.size) :
    (results fn tmps).run P w = .ok (.tuple #[.agg cs, tmps.getD q undef]) w := by
  have hp' : tmps[p]?.getD undef = .pointer (some ⟨g, 0, none⟩) := by simpa using hp
  simp [results, h, hp', asAddr, run_loadVar_row w g t ty cs fr d hg hu hd hi]
theorem wpList_load_hc {ops : Array Oper} {rest : List Oper} {o : Oper} {a : Act} {Q : Exit → Act → World → Prop} (hgd : o.guard = none) (ty : TypeId) (x : Operand) (ho : o.op = .load ty x)
    (ad : Addr) (hx : a.eval x = .pointer (some ad)) (l : List UInt8) (d : TypeDesc) (hc : ∀ j v, (l.map bcell)[j]? = some v → w.cell? (ad.add j) = some v)
    (hu : P.underlying ty = some d) (hd : (match d with | .struct _ | .array _ _ => true | _ => false) = true) (hi : (P.info? ty).map (·.size) = some l.length)
    (h : wpList P ops Q rest (a.put o.dst (hv l)) w) : wpList P ops Q (o :: rest) a w :=
  wpList_load_agg hgd ty x ho ad hx (l.map bcell) d hc hu hd (by simpa using hi) h
theorem setRow_alloc (w : World) (cur cs : Array Value) (t : TypeId) (fr : Nat × Nat) : (w.alloc (.cells cur t fr)).setRow w.heap.size cs = w.alloc (.cells cs t fr) := by
  unfold World.setRow World.alloc
  congr 1
  apply Array.ext_getElem?
  intro i
  rw [Array.getElem?_modify, Array.getElem?_push, Array.getElem?_push]
  by_cases h : i = w.heap.size
  · subst h; simp
  · rw [if_neg (fun e => h e.symm)]; simp [h]
/-- a hash, stored into the block that was just made -/
theorem wpList_store_new {ops : Array Oper} {rest : List Oper} {o : Oper} {a : Act} {Q : Exit → Act → World → Prop} (hgd : o.guard = none) (ty : TypeId) (x y : Operand) (ho : o.op = .store ty x y)
    (hx : a.eval x = .pointer (some ⟨w.heap.size, 0, none⟩)) (l : List UInt8) (hy : a.eval y = hv l) (cur : Array Value) (t : TypeId) (hl : l.length = cur.size)
    (hi : (P.info? ty).map (·.size) = some l.length)
    (h : wpList P ops Q rest (a.put o.dst undef) (w.alloc (.cells (hc l) t))) : wpList P ops Q (o :: rest) a (w.alloc (.cells cur t)) :=
  wpList_store_hc hgd ty x y ho w.heap.size hx l hy cur t (heap_alloc_new w _) hl hi (by rw [setRow_alloc]; exact h)
/-- a hash, loaded out of the block that was just made -/
theorem wpList_load_new {ops : Array Oper} {rest : List Oper} {o : Oper} {a : Act} {Q : Exit → Act → World → Prop} (hgd : o.guard = none) (ty : TypeId) (x : Operand) (ho : o.op = .load ty x)
    (hx : a.eval x = .pointer (some ⟨w.heap.size, 0, none⟩)) (l : List UInt8) (t : TypeId) (d : TypeDesc)
    (hu : P.underlying ty = some d) (hd : (match d with | .struct _ | .array _ _ => true | _ => false) = true) (hi : (P.info? ty).map (·.size) = some l.length)
    (h : wpList P ops Q rest (a.put o.dst (hv l)) (w.alloc (.cells (hc l) t))) : wpList P ops Q (o :: rest) a (w.alloc (.cells (hc l) t)) :=
  wpList_load_row hgd ty x ho w.heap.size hx t (hc l) (0, 0) d (heap_alloc_new w _) hu hd (by rw [hc_size]; exact hi) h
theorem fold_set : ∀ (l : List Value) (k : Nat) (arr : Array Value), k + l.length = arr.size →
    ((l.zipIdx k).foldl (fun (cs : Array Value) (x : Value × Nat) => cs.setIfInBounds (0 + x.2) x.1) arr).toList = arr.toList.take k ++ l
  | [], k, arr, h => by simp at h ⊢; rw [List.take_of_length_le (by simp; omega)]
  | v :: l, k, arr, h => by
    simp only [List.zipIdx_cons, List.foldl_cons]
    rw [fold_set l (k + 1) _ (by simp at h ⊢; omega)]
    simp only [List.length_cons] at h
    rw [Nat.zero_add, Array.toList_setIfInBounds]
    rw [List.take_add_one]
    simp [List.getElem?_set, show k < arr.size by omega, List.take_set]
    exact List.set_eq_of_length_le (by simp; omega)
theorem fill_one (place : Nat → Option (Nat × Nat)) (arr cs : Array Value) (v : Value) (hv : v.cells = cs) (hp : place 0 = some (0, cs.size)) (ha : arr.size = cs.size) :
    Instr.fill place arr [(0, v)] = some cs := by
  subst hv
  have h := fold_set v.cells.toList 0 arr (by simp [ha])
  have he : Array.foldl (fun (cs : Array Value) (x : Value × Nat) => cs.setIfInBounds (0 + x.2) x.1) arr v.cells.zipIdx = v.cells := by
    rw [← Array.foldl_toList, Array.toList_zipIdx]
    apply Array.toList_inj.1
    rw [h]; simp
  have hn : (v.cells.size ≠ v.cells.size || decide (0 + v.cells.size > arr.size)) = false := by simp [ha]
  unfold Instr.fill
  rw [hp]
  simp only [hn, he]
  rfl
theorem run_buildSlice_one (t elem : TypeId) (size : Nat) (z v : Value) (cs : Array Value) (ht : P.underlying t = some (.slice elem)) (hi : (P.info? elem).map (fun i => (i.zero, i.size)) = some (some z, size))
    (hv : v.cells = cs) (hs : cs.size = size) (hs0 : 0 < size) (hs1 : size ≤ 16777216) :
    (Instr.buildSlice t 1 #[(0, v)]).run P w = .ok (.slice (some ⟨w.heap.size, 0, none⟩) 1 1) (w.alloc (.cells cs elem)) := by
  cases hq : P.info? elem with
  | none => simp [hq] at hi
  | some i =>
    obtain ⟨hz, hsz⟩ : i.zero = some z ∧ i.size = size := by simpa [hq] using hi
    have hf := fill_one (fun i => some (i * size, size)) ((Array.range (1 * size)).map (z.cells[· % z.cells.size]!)) cs v hv (by simp [hs]) (by simp [hs])
    have h0 : ¬ (1 * size > 2 ^ 24) := by omega
    have h1 : ¬ (1 * size = 0) := by omega
    simp only [Instr.buildSlice, Sem.run_bind, run_underlying ht, Result.andThen_ok, sizeOf, typeInfo, run_program, hq, hsz, Sem.run_pure, if_neg h0, if_neg h1, zeroValue, hz, hf]
    rfl
theorem wpList_buildSlice_one {ops : Array Oper} {rest : List Oper} {o : Oper} {a : Act} {Q : Exit → Act → World → Prop} (hgd : o.guard = none) (t elem : TypeId) (x : Operand) (ho : o.op = .buildSlice t 1 #[(0, x)])
    (size : Nat) (z v : Value) (cs : Array Value) (hx : a.eval x = v) (ht : P.underlying t = some (.slice elem)) (hi : (P.info? elem).map (fun i => (i.zero, i.size)) = some (some z, size))
    (hv : v.cells = cs) (hs : cs.size = size) (hs0 : 0 < size) (hs1 : size ≤ 16777216)
    (h : wpList P ops Q rest (a.put o.dst (.slice (some ⟨w.heap.size, 0, none⟩) 1 1)) (w.alloc (.cells cs elem))) : wpList P ops Q (o :: rest) a w :=
  wpList_plain hgd fun _ hK => by
    have hr := run_buildSlice_one (P := P) (w := w) t elem size z v cs ht hi hv hs hs0 hs1
    unfold Oper.wp execOp
    simp only [ho, List.map_toArray, List.map_cons, List.map_nil, hx, Sem.run_bind, Sem.run_pure, Result.andThen_ok, hr]
    exact hK _ _ h
/-- a guarded operation whose guard says yes -/
theorem wpList_want {ops : Array Oper} {rest : List Oper} {o : Oper} {a : Act} {Q : Exit → Act → World → Prop} (hw : Region.wanted o (yielded ops a.tmps) = true)
    (h : ∀ K : Act → World → Prop, (∀ a w, wpList P ops Q rest a w → K a w) → o.wp P a w K Q) : wpList P ops Q (o :: rest) a w :=
  wpList_step fun K hK => by rw [if_pos hw]; exact h K hK
theorem wpList_load_rowG {ops : Array Oper} {rest : List Oper} {o : Oper} {a : Act} {Q : Exit → Act → World → Prop} (hw : Region.wanted o (yielded ops a.tmps) = true) (ty : TypeId) (x : Operand) (ho : o.op = .load ty x)
    (g : Nat) (hx : a.eval x = .pointer (some ⟨g, 0, none⟩)) (t : TypeId) (cs : Array Value) (fr : Nat × Nat) (d : TypeDesc) (hg : w.heap[g]? = some (.cells cs t fr))
    (hu : P.underlying ty = some d) (hd : (match d with | .struct _ | .array _ _ => true | _ => false) = true) (hi : (P.info? ty).map (·.size) = some cs.size)
    (h : wpList P ops Q rest (a.put o.dst (.agg cs)) w) : wpList P ops Q (o :: rest) a w :=
  wpList_want hw fun _ hK => wp_load_row ty x ho g hx t cs fr d hg hu hd hi (hK _ _ h)
/-- a zero array, built in place -/
theorem wpList_build0 {ops : Array Oper} {rest : List Oper} {o : Oper} {a : Act} {Q : Exit → Act → World → Prop} (hw : Region.wanted o (yielded ops a.tmps) = true) (t : TypeId) (ho : o.op = .build t #[])
    (v : Value) (hr : (Instr.build t #[]).run P w = .ok v w) (h : wpList P ops Q rest (a.put o.dst v) w) : wpList P ops Q (o :: rest) a w :=
  wpList_want hw fun _ hK => by
    unfold Oper.wp execOp
    simp only [ho, List.map_toArray, List.map_nil, Sem.run_bind, Sem.run_pure, Result.andThen_ok, hr]
    exact hK _ _ h
/-- a slice value, read as lists of cells -/
def SlAt (w : World) (size : Nat) (v : Value) (css : List (List Value)) : Prop :=
  ∃ a cap, v = .slice a css.length cap ∧ css.length ≤ cap ∧ (∀ cs ∈ css, cs.length = size) ∧
    ∀ i cs, css[i]? = some cs → ∃ b o, a = some ⟨b, o, none⟩ ∧ b < w.heap.size ∧ (∀ j u, cs[j]? = some u → w.cell? ⟨b, o + i * size + j, none⟩ = some u)
theorem SlAt.below {w w' : World} {size : Nat} {v : Value} {css : List (List Value)} (h : SlAt w size v css) {B : Nat} (hb : Below B w w') (hB : w.heap.size ≤ B) : SlAt w' size v css := by
  obtain ⟨a, cap, hv, hc, hs, hr⟩ := h
  refine ⟨a, cap, hv, hc, hs, fun i cs hi => ?_⟩
  obtain ⟨b, o, ha, hlt, hcell⟩ := hr i cs hi
  have := hb.size
  exact ⟨b, o, ha, by omega, fun j u hj => by rw [hb.cell (p := ⟨b, _, none⟩) (Nat.lt_of_lt_of_le hlt hB)]; exact hcell j u hj⟩
/-- the cells of a list of hashes -/
def hcs (hs : List (List UInt8)) : List (List Value) := hs.map (fun h => h.map bcell)
theorem hcs_length (hs : List (List UInt8)) : (hcs hs).length = hs.length := by simp [hcs]
theorem SlAt.at {w : World} {size : Nat} {a : Option Addr} {n cap : Nat} {css : List (List Value)} (h : SlAt w size (.slice a n cap) css) {i : Nat} {cs : List Value} (hi : css[i]? = some cs) :
    ∃ b o, a = some ⟨b, o, none⟩ ∧ b < w.heap.size ∧ cs.length = size ∧ (∀ j u, cs[j]? = some u → w.cell? ((⟨b, o + i * size, none⟩ : Addr).add j) = some u) := by
  obtain ⟨a', cap', hv, hc, hs, hr⟩ := h
  injection hv with h1 h2 h3
  subst h1
  obtain ⟨b, o, ha, hlt, hcell⟩ := hr i cs hi
  exact ⟨b, o, ha, hlt, hs cs (List.mem_of_getElem? hi), fun j u hj => by rw [Addr.add_lit]; exact hcell j u hj⟩
theorem SlAt.form {w : World} {size : Nat} {v : Value} {css : List (List Value)} (h : SlAt w size v css) : ∃ a cap, v = .slice a css.length cap ∧ css.length ≤ cap := by
  obtain ⟨a, cap, hv, hc, _⟩ := h
  exact ⟨a, cap, hv, hc⟩
theorem SlAt.len32 {w : World} {v : Value} {hs : List (List UInt8)} (h : SlAt w 32 v (hcs hs)) : ∀ x ∈ hs, x.length = 32 := by
  obtain ⟨a, cap, hv, hc, hs', hr⟩ := h
  intro x hx
  have := hs' (x.map bcell) (List.mem_map_of_mem hx)
  simpa using this
theorem SlAt.formH {w : World} {v : Value} {hs : List (List UInt8)} (h : SlAt w 32 v (hcs hs)) : ∃ a cap, v = .slice a hs.length cap ∧ hs.length ≤ cap := by
  have := h.form
  rwa [hcs_length] at this
theorem flatten_len {hs : List (List UInt8)} (h : ∀ x ∈ hs, x.length = 32) : hs.flatten.length = hs.length * 32 := by
  induction hs with
  | nil => rfl
  | cons a l ih =>
    rw [List.flatten_cons, List.length_append, ih (fun x hx => h x (List.mem_cons_of_mem _ hx)), h a List.mem_cons_self, List.length_cons]; omega
/-- the bytes of a hash that is zero -/
def zero32 : List UInt8 := List.replicate 32 0
/-- the cells of a list of hashes, one behind the other -/
def hflat (hs : List (List UInt8)) : List Value := hs.flatten.map bcell
theorem hflat_nil : hflat [] = [] := rfl
theorem hflat_snoc (hs : List (List UInt8)) (h : List UInt8) : hflat (hs ++ [h]) = hflat hs ++ h.map bcell := by
  unfold hflat; rw [List.flatten_append, List.flatten_singleton, List.map_append]
theorem flat_get : ∀ (hs : List (List UInt8)), (∀ x ∈ hs, x.length = 32) → ∀ (i : Nat) (hi : i < hs.length) (j : Nat), j < 32 → hs.flatten[i * 32 + j]? = (hs[i])[j]?
  | [], _, i, hi, _, _ => by simp at hi
  | x :: xs, h32, 0, _, j, hj => by
    have hx32 : x.length = 32 := h32 x List.mem_cons_self
    rw [List.flatten_cons, List.getElem?_append_left (by omega)]; simp
  | x :: xs, h32, i + 1, hi, j, hj => by
    have hx32 : x.length = 32 := h32 x List.mem_cons_self
    rw [List.flatten_cons, List.getElem?_append_right (by omega), show (i + 1) * 32 + j - x.length = i * 32 + j by omega]
    rw [flat_get xs (fun y hy => h32 y (List.mem_cons_of_mem _ hy)) i (by simpa using hi) j hj]
    simp
theorem SlAt.of_owns {w : World} {base e size : Nat} {v : Value} {hs : List (List UInt8)} (h : w.ownsRow base e 32 v hs.length (hflat hs)) (h32 : ∀ x ∈ hs, x.length = 32) : SlAt w 32 v (hcs hs) := by
  have hcell : ∀ g cap, v = .slice (some ⟨g, 0, none⟩) hs.length cap → ∀ i cs, (hcs hs)[i]? = some cs → ∀ j u, cs[j]? = some u → w.cell? ⟨g, 0 + i * 32 + j, none⟩ = some u := by
    intro g cap hv i cs hi j u hj
    have hx := h.cells (g := g) (by rw [hv]; rfl) (i * 32 + j) u
    rw [Addr.add_lit] at hx
    have hi' : i < hs.length := by
      have := (List.getElem?_eq_some_iff.1 hi).1
      rwa [hcs_length] at this
    have he : cs = hs[i].map bcell := by
      simp only [hcs, List.getElem?_map, List.getElem?_eq_getElem hi', Option.map_some] at hi
      injection hi with hi
      exact hi.symm
    subst he
    have hj' : j < 32 := by
      have := (List.getElem?_eq_some_iff.1 hj).1
      rw [List.length_map, h32 _ (List.getElem_mem hi')] at this
      exact this
    rw [show 0 + i * 32 + j = 0 + (i * 32 + j) by omega]
    refine hx ?_
    unfold hflat
    rw [List.getElem?_map] at hj ⊢
    rw [← hj, flat_get hs h32 i hi' j hj']
  rcases h.2 with ⟨rfl, h0⟩ | ⟨g, cap, cur, rfl, hb, hg, hnc, hcm, _⟩
  · have : hs = [] := List.eq_nil_of_length_eq_zero h0
    subst this
    exact ⟨none, 0, rfl, Nat.le_refl _, fun _ h => by simp [hcs] at h, fun i cs h => by simp [hcs] at h⟩
  · refine ⟨_, cap, by rw [hcs_length], by rw [hcs_length]; exact hnc, ?_, fun i cs hi => ⟨g, 0, rfl, (Array.getElem?_eq_some_iff.1 hg).1, hcell g cap rfl i cs hi⟩⟩
    intro cs hcs'
    simp only [hcs, List.mem_map] at hcs'
    obtain ⟨l, hl, rfl⟩ := hcs'
    simpa using h32 l hl
theorem row_alloc {w : World} {cs : Array Value} {t : TypeId} {fr : Nat × Nat} : ∀ j u, cs.toList[j]? = some u → (w.alloc (.cells cs t fr)).cell? ((⟨w.heap.size, 0, none⟩ : Addr).add j) = some u := by
  intro j u hj
  rw [cell_at_row (heap_alloc_new w _)]
  simpa using hj
end Go.Spec
