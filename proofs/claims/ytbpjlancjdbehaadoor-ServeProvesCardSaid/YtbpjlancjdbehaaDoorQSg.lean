/- Heads and signed heads, as values: cells of structs that hold a hash. -/
import Derived.Test.YtbpjlancjdbehaaDoorQAnyOp
import Derived.Test.YtbpjlancjdbehaaDoorQBase
import Derived.Test.YtbpjlancjdbehaaDoorQRef03
import Derived.Lib.LazyBuf
import Derived.Deep.DeepCutAuto
set_option maxRecDepth 100000
namespace Go.Spec
open Go.RowKit
/-- a head's cells -/
def hdA (z : Int) (root : List UInt8) : Array Value := (.int .i64 z :: root.map bcell).toArray
/-- a signed head's cells -/
def sgA (z : Int) (root : List UInt8) (i : Int) (sig : List UInt8) (p : Value) : Array Value := (.int .i64 z :: (root.map bcell ++ [.int .i64 i, sv sig, p])).toArray
variable {P : Program} {w : World} {z i : Int} {root sig : List UInt8} {p : Value}
@[go_sem] theorem hdA_get0 : (hdA z root)[0]? = some (.int .i64 z) := by simp [hdA]
@[go_sem] theorem sgA_get0 : (sgA z root i sig p)[0]? = some (.int .i64 z) := by simp [sgA]
@[go_sem] theorem hdA_size (h : root.length = 32) : (hdA z root).size = 33 := by simp [hdA, h]
@[go_sem] theorem sgA_size (h : root.length = 32) : (sgA z root i sig p).size = 36 := by simp [sgA, h]
@[go_sem] theorem sgA_get33 (h : root.length = 32) : (sgA z root i sig p)[33]? = some (.int .i64 i) := by simp [sgA, h, List.getElem?_append]
@[go_sem] theorem sgA_get34 (h : root.length = 32) : (sgA z root i sig p)[34]? = some (sv sig) := by simp [sgA, h, List.getElem?_append]
@[go_sem] theorem sgA_get35 (h : root.length = 32) : (sgA z root i sig p)[35]? = some p := by simp [sgA, h, List.getElem?_append]
@[go_sem] theorem hdA_at0 (h : 0 < (hdA z root).size) : (hdA z root)[0] = .int .i64 z := by simp [hdA]
@[go_sem] theorem sgA_at0 (h : 0 < (sgA z root i sig p).size) : (sgA z root i sig p)[0] = .int .i64 z := by simp [sgA]
@[go_sem] theorem sgA_at33 (h : root.length = 32) (k : 33 < (sgA z root i sig p).size) : (sgA z root i sig p)[33] = .int .i64 i := by simp [sgA, h, List.getElem_append]
@[go_sem] theorem sgA_at34 (h : root.length = 32) (k : 34 < (sgA z root i sig p).size) : (sgA z root i sig p)[34] = sv sig := by simp [sgA, h, List.getElem_append]
@[go_sem] theorem sgA_at35 (h : root.length = 32) (k : 35 < (sgA z root i sig p).size) : (sgA z root i sig p)[35] = p := by simp [sgA, h, List.getElem_append]
theorem sgA_root (h : root.length = 32) (j : Nat) (hj : j < root.length) : (sgA z root i sig p)[1 + j]? = some (bcell root[j]) := by
  rw [Nat.add_comm]; simp [sgA, List.getElem?_append, hj]
theorem _root_.Go.Spec.Blk.hd0 {g : Nat} {t : TypeId} (h : Blk w g (hdA z root) t) : w.cell? ⟨g, 0, none⟩ = some (.int .i64 z) := by rw [h.cell, hdA_get0]
theorem _root_.Go.Spec.Blk.sg0 {g : Nat} {t : TypeId} (h : Blk w g (sgA z root i sig p) t) : w.cell? ⟨g, 0, none⟩ = some (.int .i64 z) := by rw [h.cell, sgA_get0]
theorem _root_.Go.Spec.Blk.sg33 {g : Nat} {t : TypeId} (h : Blk w g (sgA z root i sig p) t) (hr : root.length = 32) : w.cell? ⟨g, 33, none⟩ = some (.int .i64 i) := by rw [h.cell, sgA_get33 hr]
theorem _root_.Go.Spec.Blk.sg34 {g : Nat} {t : TypeId} (h : Blk w g (sgA z root i sig p) t) (hr : root.length = 32) : w.cell? ⟨g, 34, none⟩ = some (sv sig) := by rw [h.cell, sgA_get34 hr]
theorem _root_.Go.Spec.Blk.sg35 {g : Nat} {t : TypeId} (h : Blk w g (sgA z root i sig p) t) (hr : root.length = 32) : w.cell? ⟨g, 35, none⟩ = some p := by rw [h.cell, sgA_get35 hr]
theorem _root_.Go.Spec.Blk.piece {w : World} {g : Nat} {cs : Array Value} {t : TypeId} (h : Blk w g cs t) (o : Nat) (l : List Value) (hl : ∀ j (hj : j < l.length), cs[o + j]? = some l[j]) : ∀ j u, l[j]? = some u → w.cell? ((⟨g, o, none⟩ : Addr).add j) = some u := by
  intro j u hu
  have hj : j < l.length := (List.getElem?_eq_some_iff.1 hu).1
  rw [Addr.add_lit, h.cell, hl j hj]
  rw [List.getElem?_eq_getElem hj] at hu
  exact hu
theorem _root_.Go.Spec.Blk.sgRoot {g : Nat} {t : TypeId} (h : Blk w g (sgA z root i sig p) t) (hr : root.length = 32) : ∀ j u, (root.map bcell)[j]? = some u → w.cell? ((⟨g, 1, none⟩ : Addr).add j) = some u :=
  h.piece 1 _ (fun j hj => by rw [sgA_root hr j (by simpa using hj)]; simp)
theorem _root_.Go.Spec.Blk.sgHead {g : Nat} {t : TypeId} (h : Blk w g (sgA z root i sig p) t) : ∀ j u, (hdA z root).toList[j]? = some u → w.cell? ((⟨g, 0, none⟩ : Addr).add j) = some u :=
  h.piece 0 _ (fun j hj => by
    rw [Nat.zero_add]
    simp only [hdA, sgA, List.length_cons, List.length_map] at hj ⊢
    simp only [List.getElem?_toArray]
    rw [← List.cons_append, List.getElem?_append_left (by simpa using hj), List.getElem?_eq_getElem])
theorem sgA_one (hp : p.oneCell' = true) : ∀ v ∈ (sgA z root i sig p).toList, v.oneCell' = true := by
  intro v hv
  simp only [sgA, List.mem_cons, List.mem_append, List.mem_map, List.not_mem_nil, or_false] at hv
  rcases hv with rfl | ⟨b, _, rfl⟩ | rfl | rfl | rfl
  · rfl
  · rfl
  · rfl
  · rfl
  · exact hp
end Go.Spec
namespace Go.Proofs.YtbpjlancjdbehaaDoor
open Go.RowKit Go.Spec
/-- may a signed head be? -/
def validB (z i : Int) (sig : List UInt8) (n : Nat) : Bool := decide (0 ≤ z) && decide (z ≤ 4096) && (decide (0 ≤ i) && decide (i < 8) && decide (sig.length = 16384) && decide (n = 3))
set_option maxHeartbeats 2000000 in
theorem valid_any (z i : Int) (root sig : List UInt8) (a : Option Addr) (n cap : Nat) (w : World) (hr : root.length = 32) :
    Calls Tryd.prog 111 #[.agg (sgA z root i sig (.slice a n cap))] w fun e w' => e = .returned (.bool (validB z i sig n)) ∧ Below w.heap.size w w' := by
  rcases Decidable.em (0 ≤ z) with h1 | h1
  rotate_left
  · have d1 : decide (0 ≤ z) = false := by simpa using h1
    have Hf := hid (show validB z i sig n = false by simp [validB, h1])
    clear h1
    go_enter Tryd.func111, Tryd.ntmps111
    go_wp2
    go_ret
    exact ⟨by rw [Hf.out]; rfl, (Below.refl _ _).alloc (Nat.le_refl _) _⟩
  have d1 : decide (0 ≤ z) = true := by simpa using h1
  rcases Decidable.em (z ≤ 4096) with h2 | h2
  rotate_left
  · have d2 : decide (z ≤ 4096) = false := by simpa using h2
    have Hf := hid (show validB z i sig n = false by simp [validB, h2])
    clear h1 h2
    go_enter Tryd.func111, Tryd.ntmps111
    go_wp2
    go_ret
    exact ⟨by rw [Hf.out]; rfl, (Below.refl _ _).alloc (Nat.le_refl _) _⟩
  have d2 : decide (z ≤ 4096) = true := by simpa using h2
  rcases Decidable.em (0 ≤ i) with h3 | h3
  rotate_left
  · have d3 : decide (0 ≤ i) = false := by simpa using h3
    have Hf := hid (show validB z i sig n = false by simp [validB, h3])
    clear h1 h2 h3
    go_enter Tryd.func111, Tryd.ntmps111
    go_wp2
    go_ret
    exact ⟨by rw [Hf.out]; rfl, (Below.refl _ _).alloc (Nat.le_refl _) _⟩
  have d3 : decide (0 ≤ i) = true := by simpa using h3
  rcases Decidable.em (i < 8) with h4 | h4
  rotate_left
  · have d4 : decide (i < 8) = false := by simpa using h4
    have Hf := hid (show validB z i sig n = false by simp [validB, h4])
    clear h1 h2 h3 h4
    go_enter Tryd.func111, Tryd.ntmps111
    go_wp2
    go_ret
    exact ⟨by rw [Hf.out]; rfl, (Below.refl _ _).alloc (Nat.le_refl _) _⟩
  have d4 : decide (i < 8) = true := by simpa using h4
  by_cases h5 : sig.length = 16384
  · have d5 : ((sig.length : Int) == 16384) = true := by simp; omega
    by_cases h6 : n = 3
    · have Hf := hid (show validB z i sig n = true by simp [validB, h1, h2, h3, h4, h5, h6])
      have d6 : ((n : Int) == 3) = true := by simp; omega
      clear h1 h2 h3 h4 h5 h6
      go_enter Tryd.func111, Tryd.ntmps111
      go_wp2
      go_ret
      exact ⟨by rw [Hf.out]; rfl, (Below.refl _ _).alloc (Nat.le_refl _) _⟩
    · have Hf := hid (show validB z i sig n = false by simp [validB, h6])
      have d6 : ((n : Int) == 3) = false := by simp; omega
      clear h1 h2 h3 h4 h5 h6
      go_enter Tryd.func111, Tryd.ntmps111
      go_wp2
      go_ret
      exact ⟨by rw [Hf.out]; rfl, (Below.refl _ _).alloc (Nat.le_refl _) _⟩
  · have Hf := hid (show validB z i sig n = false by simp [validB, h5])
    have d5 : ((sig.length : Int) == 16384) = false := by simp; omega
    clear h1 h2 h3 h4 h5
    go_enter Tryd.func111, Tryd.ntmps111
    go_wp2
    go_ret
    exact ⟨by rw [Hf.out]; rfl, (Below.refl _ _).alloc (Nat.le_refl _) _⟩
set_option maxHeartbeats 2000000 in
theorem rvalid_any (z i : Int) (root sig : List UInt8) (a : Option Addr) (n cap : Nat) (w : World) (hr : root.length = 32) :
    Calls Tryd.prog 114 #[.agg (sgA z root i sig (.slice a n cap))] w fun e w' => e = .returned (.bool (validB z i sig n)) ∧ Below w.heap.size w w' := by
  rcases Decidable.em (0 ≤ z) with h1 | h1
  rotate_left
  · have d1 : decide (0 ≤ z) = false := by simpa using h1
    have Hf := hid (show validB z i sig n = false by simp [validB, h1])
    clear h1
    go_enter Tryd.func114, Tryd.ntmps114
    go_wp2
    go_ret
    exact ⟨by rw [Hf.out]; rfl, (Below.refl _ _).alloc (Nat.le_refl _) _⟩
  have d1 : decide (0 ≤ z) = true := by simpa using h1
  rcases Decidable.em (z ≤ 4096) with h2 | h2
  rotate_left
  · have d2 : decide (z ≤ 4096) = false := by simpa using h2
    have Hf := hid (show validB z i sig n = false by simp [validB, h2])
    clear h1 h2
    go_enter Tryd.func114, Tryd.ntmps114
    go_wp2
    go_ret
    exact ⟨by rw [Hf.out]; rfl, (Below.refl _ _).alloc (Nat.le_refl _) _⟩
  have d2 : decide (z ≤ 4096) = true := by simpa using h2
  rcases Decidable.em (0 ≤ i) with h3 | h3
  rotate_left
  · have d3 : decide (0 ≤ i) = false := by simpa using h3
    have Hf := hid (show validB z i sig n = false by simp [validB, h3])
    clear h1 h2 h3
    go_enter Tryd.func114, Tryd.ntmps114
    go_wp2
    go_ret
    exact ⟨by rw [Hf.out]; rfl, (Below.refl _ _).alloc (Nat.le_refl _) _⟩
  have d3 : decide (0 ≤ i) = true := by simpa using h3
  rcases Decidable.em (i ≤ 7) with h4 | h4
  rotate_left
  · have d4 : decide (i ≤ 7) = false := by simpa using h4
    have Hf := hid (show validB z i sig n = false by simp [validB]; omega)
    clear h1 h2 h3 h4
    go_enter Tryd.func114, Tryd.ntmps114
    go_wp2
    go_ret
    exact ⟨by rw [Hf.out]; rfl, (Below.refl _ _).alloc (Nat.le_refl _) _⟩
  have d4 : decide (i ≤ 7) = true := by simpa using h4
  by_cases h5 : sig.length = 16384
  · have d5 : ((sig.length : Int) == 16384) = true := by simp; omega
    by_cases h6 : n = 3
    · have Hf := hid (show validB z i sig n = true by simp [validB, h1, h2, h3, h5, h6]; omega)
      have d6 : ((n : Int) == 3) = true := by simp; omega
      clear h1 h2 h3 h4 h5 h6
      go_enter Tryd.func114, Tryd.ntmps114
      go_wp2
      go_ret
      exact ⟨by rw [Hf.out]; rfl, (Below.refl _ _).alloc (Nat.le_refl _) _⟩
    · have Hf := hid (show validB z i sig n = false by simp [validB, h6])
      have d6 : ((n : Int) == 3) = false := by simp; omega
      clear h1 h2 h3 h4 h5 h6
      go_enter Tryd.func114, Tryd.ntmps114
      go_wp2
      go_ret
      exact ⟨by rw [Hf.out]; rfl, (Below.refl _ _).alloc (Nat.le_refl _) _⟩
  · have Hf := hid (show validB z i sig n = false by simp [validB, h5])
    have d5 : ((sig.length : Int) == 16384) = false := by simp; omega
    clear h1 h2 h3 h4 h5
    go_enter Tryd.func114, Tryd.ntmps114
    go_wp2
    go_ret
    exact ⟨by rw [Hf.out]; rfl, (Below.refl _ _).alloc (Nat.le_refl _) _⟩
end Go.Proofs.YtbpjlancjdbehaaDoor
/- Structs with a hash, built; heads compared; rows of such. -/
namespace Go.Spec
open Go.RowKit
theorem list32 (l : List UInt8) (h : l.length = 32) : ∃ f : Nat → UInt8, l = (List.range 32).map f := by
  refine ⟨fun i => l.getD i 0, ?_⟩
  apply List.ext_getElem
  · simp [h]
  · intro i h1 h2
    simp [List.getD_eq_getElem?_getD, List.getElem?_eq_getElem h1]
variable {P : Program}
/-- a whole struct, loaded in a quiet region -/
theorem wpQuiet_load_aggG {C : World → Prop} {Q : Act → Prop} {ops : Array Oper} {rest : List Oper} {o : Oper} {a : Act} (hw : Region.wanted o (yielded ops a.tmps) = true) (ty : TypeId) (x : Operand) (ho : o.op = .load ty x)
    (ad : Addr) (hx : a.eval x = .pointer (some ad)) (cs : Array Value) (d : TypeDesc) (hc : ∀ w', C w' → ∀ j v, cs.toList[j]? = some v → w'.cell? (ad.add j) = some v)
    (hu : P.underlying ty = some d) (hd : (match d with | .struct _ | .array _ _ => true | _ => false) = true) (hi : (P.info? ty).map (·.size) = some cs.size)
    (h : wpQuiet P ops C Q rest (a.put o.dst (.agg cs))) : wpQuiet P ops C Q (o :: rest) a :=
  wpQuiet_step fun K hK => by
    rw [if_pos hw]
    refine ⟨.agg cs, fun w' hw' => ?_, hK _ h⟩
    have hr := run_loadVar_agg (P := P) (w := w') ty ad cs.toList d (hc w' hw') hu hd (by simpa using hi)
    rw [Array.toArray_toList] at hr
    unfold Oper.quietAt execOp
    simp only [ho, hx, Instr.loadAt, Instr.sureAddr, Sem.run_bind, Sem.run_pure, Result.andThen_ok, hr]
    exact ⟨rfl, rfl⟩
/-- a whole struct out of any row -/
theorem wpList_load_cs {w : World} {ops : Array Oper} {rest : List Oper} {o : Oper} {a : Act} {Q : Exit → Act → World → Prop} (hgd : o.guard = none) (ty : TypeId) (x : Operand) (ho : o.op = .load ty x)
    (ad : Addr) (hx : a.eval x = .pointer (some ad)) (cs : Array Value) (d : TypeDesc) (hc : ∀ j v, cs.toList[j]? = some v → w.cell? (ad.add j) = some v)
    (hu : P.underlying ty = some d) (hd : (match d with | .struct _ | .array _ _ => true | _ => false) = true) (hi : (P.info? ty).map (·.size) = some cs.size)
    (h : wpList P ops Q rest (a.put o.dst (.agg cs)) w) : wpList P ops Q (o :: rest) a w :=
  wpList_load_agg hgd ty x ho ad hx cs.toList d hc hu hd (by simpa using hi) (by simpa using h)
/-- .. in a list -/
theorem wpList_buildP {w : World} {ops : Array Oper} {rest : List Oper} {o : Oper} {a : Act} {Q : Exit → Act → World → Prop} (hgd : o.guard = none) (t : TypeId) (parts : List (Nat × Operand)) (ho : o.op = .build t parts.toArray) (v : Value)
    (hr : ∀ w, (Instr.build t (parts.map fun (i, x) => (i, a.eval x)).toArray).run P w = .ok v w)
    (h : wpList P ops Q rest (a.put o.dst v) w) : wpList P ops Q (o :: rest) a w :=
  wpList_plain hgd fun _ hK => by
    unfold Oper.wp execOp
    simp only [ho, List.map_toArray, hr, Sem.run_bind, Sem.run_pure, Result.andThen_ok]
    exact hK _ _ h
theorem wpList_store_newA {w : World} {ops : Array Oper} {rest : List Oper} {o : Oper} {a : Act} {Q : Exit → Act → World → Prop} (hgd : o.guard = none) (ty : TypeId) (x y : Operand) (ho : o.op = .store ty x y)
    (hx : a.eval x = .pointer (some ⟨w.heap.size, 0, none⟩)) (cs : Array Value) (hy : a.eval y = .agg cs) (cur : Array Value) (t : TypeId) (hl : cs.size = cur.size)
    (hi : (P.info? ty).map (·.size) = some cs.size) (h1 : ∀ v ∈ cs.toList, v.oneCell' = true)
    (h : wpList P ops Q rest (a.put o.dst undef) (w.alloc (.cells cs t))) : wpList P ops Q (o :: rest) a (w.alloc (.cells cur t)) :=
  wpList_store_blk hgd ty x y ho w.heap.size hx cs hy cur t (Blk.new w cur t) hl hi h1 (by rw [setRow_alloc]; exact h)
theorem wpList_load_newA {w : World} {ops : Array Oper} {rest : List Oper} {o : Oper} {a : Act} {Q : Exit → Act → World → Prop} (hgd : o.guard = none) (ty : TypeId) (x : Operand) (ho : o.op = .load ty x)
    (hx : a.eval x = .pointer (some ⟨w.heap.size, 0, none⟩)) (cs : Array Value) (t : TypeId) (d : TypeDesc)
    (hu : P.underlying ty = some d) (hd : (match d with | .struct _ | .array _ _ => true | _ => false) = true) (hi : (P.info? ty).map (·.size) = some cs.size)
    (h : wpList P ops Q rest (a.put o.dst (.agg cs)) (w.alloc (.cells cs t))) : wpList P ops Q (o :: rest) a (w.alloc (.cells cs t)) :=
  wpList_load_blk hgd ty x ho w.heap.size hx t cs d (Blk.new w cs t) hu hd hi h
end Go.Spec
namespace Go.Proofs.YtbpjlancjdbehaaDoor
theorem Tryd.sizeHead : (Tryd.prog.info? 90).map (·.size) = some 33 := by kernel_rfl
theorem Tryd.sizeSigned : (Tryd.prog.info? 92).map (·.size) = some 36 := by kernel_rfl
open Go.RowKit Go.Spec
theorem partHead0 (z : Int) (root : List UInt8) (h : root.length = 32) (w : World) : (part 3 (hdA z root) 0).run Tryd.prog w = .ok (.int .i64 z) w := by
  obtain ⟨f, rfl⟩ := list32 root h
  kernel_rfl
theorem partHead1 (z : Int) (root : List UInt8) (h : root.length = 32) (w : World) : (part 29 (hdA z root) 1).run Tryd.prog w = .ok (hv root) w := by
  obtain ⟨f, rfl⟩ := list32 root h
  kernel_rfl
theorem stoodHead : Tryd.prog.stoodInHeld 90 = false := by kernel_rfl
theorem equalHead (z z' : Int) (r r' : List UInt8) (h : r.length = 32) (h' : r'.length = 32) (w : World) :
    (Op.equalIn 10000 90 (.agg (hdA z r)) (.agg (hdA z' r'))).run Tryd.prog w = .ok (decide (z = z') && r == r') w := by
  rw [Op.equalIn]
  simp only [Sem.run_bind, run_underlying Tryd.underlying90, Result.andThen_ok, run_program, stoodHead, Bool.false_eq_true, if_false]
  have e1 : (Op.equalIn 9999 3 (.int .i64 z) (.int .i64 z')).run Tryd.prog w = .ok (z == z') w := run_equalIn_int w 9998 3 .i64 .i64 z z' Tryd.underlying3
  have e2 : (Op.equalIn 9999 29 (hv r) (hv r')).run Tryd.prog w = .ok (r == r') w := run_equalIn_hc 9997 32 29 5 r r' Tryd.underlying29 Tryd.underlying5 Tryd.sizeU8 h h'
  have hn1 : ("Size" : String) ≠ "_" := by decide
  have hn2 : ("Root" : String) ≠ "_" := by decide
  rw [← Array.forIn_toList]
  simp only [List.forIn_cons, List.forIn_nil, hn1, hn2, ne_eq, not_false_eq_true, if_true, Sem.run_bind, partHead0 z r h, partHead0 z' r' h', partHead1 z r h, partHead1 z' r' h', e1, e2, Result.andThen_ok]
  have hz : (z == z') = decide (z = z') := rfl
  rw [hz]
  cases decide (z = z') with
  | false => simp
  | true =>
    simp only [Bool.not_true, Bool.false_eq_true, if_false, Sem.run_pure, Result.andThen_ok, Sem.run_bind, partHead1 z r h, partHead1 z' r' h', e2, Bool.true_and]
    cases (r == r') <;> simp
end Go.Proofs.YtbpjlancjdbehaaDoor
namespace Go.Proofs.YtbpjlancjdbehaaDoor
open Go.RowKit Go.Spec
/-- a signed head's bytes -/
def putS (z : Nat) (root : List UInt8) (i : Nat) (sig : List UInt8) (path : List (List UInt8)) : List UInt8 := numL z ++ (root ++ (numL i ++ (numL sig.length ++ (sig ++ hashesL path))))
theorem valid_yes (z i : Nat) (root sig : List UInt8) (a : Option Addr) (cap : Nat) (w : World) (hr : root.length = 32) (hz : z ≤ 4096) (hi : i < 8) (hs : sig.length = 16384) :
    Calls Tryd.prog 111 #[.agg (sgA z root i sig (.slice a 3 cap))] w fun e w' => e = .returned (.bool true) ∧ Below w.heap.size w w' :=
  (valid_any z i root sig a 3 cap w hr).mono fun _ _ ⟨x, y⟩ => ⟨by rw [x]; simp [validB]; omega, y⟩
set_option maxHeartbeats 2000000 in
theorem sput_yes (z i : Nat) (root sig : List UInt8) (path : List (List UInt8)) (a : Option Addr) (cap : Nat) (w : World) (hr : root.length = 32) (hz : z ≤ 4096) (hi : i < 8) (hs : sig.length = 16384) (hp : path.length = 3) (hat : SlAt w 32 (.slice a 3 cap) (hcs path)) :
    Calls Tryd.prog 98 #[.agg (sgA z root i sig (.slice a 3 cap))] w fun e w' => e = .returned (.tuple #[sv (putS z root i sig path), .int .i64 0]) ∧ Below w.heap.size w w' := by
  have Hat := hid hat
  have V := hid (fun w0 => valid_yes z i root sig a cap w0 hr hz hi hs)
  have Hsz := hid (show (Tryd.prog.info? 92).map (·.size) = some (sgA z root i sig (.slice a 3 cap)).size by rw [sgA_size hr]; exact Tryd.sizeSigned)
  have Hsh := hid (show (Tryd.prog.info? 29).map (·.size) = some root.length by rw [hr]; exact Tryd.sizeHash)
  have Hr := hid hr
  have HS := hid hs
  have HP := hid hp
  have hn1 := numL_len z (by omega); have hn2 := numL_len i (by omega); have hn3 := numL_len sig.length (by omega)
  have hpl : (hashesL path).length ≤ 106 := by
    rw [hashesL, if_neg (by omega), List.length_append, flatten_len hat.len32]
    have := numL_len path.length (by omega)
    omega
  have hsl : sig.length ≤ 16384 := by omega
  have hrl : root.length ≤ 32 := by omega
  clear hat hs hp
  have HB0 : Hid (Blk (w.alloc (.cells (sgA z root i sig (.slice a 3 cap)) 92)) w.heap.size (sgA z root i sig (.slice a 3 cap)) 92) := hid (Blk.new _ _ _)
  go_enter Tryd.func98, Tryd.ntmps98
  go_upto_region 3 with (first
    | ((with_reducible show wpList _ _ _ ({ dst := _, op := Op.load 92 _, type := _, pos := _, after := _, guard := _ } :: _) _ _); refine wpList_load_blk rfl 92 _ rfl w.heap.size rfl 92 _ _ HB0.out Tryd.underlying92 rfl Hsz.out ?_)
    | (go_at_call 111; refine (V.out _).mono ?_; rintro e w1 ⟨rfl, hb1⟩))
  have HB1 := hid (HB0.out.later hb1)
  have HW1 := hid (((Below.refl _ w).alloc (Nat.le_refl _) (.cells (sgA z root i sig (.slice a 3 cap)) 92)).trans (hb1.mono (by simp)))
  have C1 := hid (fun x : Later w1 => num_any z (lat x) (by omega))
  have C2 := hid (fun x : Later w1 => num_any i (lat x) (by omega))
  have C3 := hid (fun x : Later w1 => text_any sig (lat x) (by omega))
  have C4 := hid (fun x : Later w1 => hash_any root (lat x) Hr.out)
  have C5 := hid (fun x : Later w1 => hashes_any _ path (lat x) ((Hat.out.below HW1.out (Nat.le_refl _)).below (lat_below x) (Nat.le_refl _)) (by rw [HP.out]; omega))
  clear hb1 HB0 hr
  refine wp_region_later (by kernel_rfl) (by kernel_rfl) ?_
  repeat (first
    | (refine wpQuiet_load_one rfl 3 _ rfl ⟨w.heap.size, 0, none⟩ rfl (.int .i64 z) _ (by rintro _ ⟨q, rfl⟩; exact (HB1.out.later (lat_below q)).sg0) Tryd.underlying3 rfl ?_; simp only [Act.put, List.setIfInBounds_toArray, List.set_cons_succ, List.set_cons_zero])
    | (refine wpQuiet_load_one rfl 3 _ rfl ⟨w.heap.size, 33, none⟩ rfl (.int .i64 i) _ (by rintro _ ⟨q, rfl⟩; exact (HB1.out.later (lat_below q)).sg33 Hr.out) Tryd.underlying3 rfl ?_; simp only [Act.put, List.setIfInBounds_toArray, List.set_cons_succ, List.set_cons_zero])
    | (refine wpQuiet_load_one rfl 9 _ rfl ⟨w.heap.size, 34, none⟩ rfl (sv sig) _ (by rintro _ ⟨q, rfl⟩; exact (HB1.out.later (lat_below q)).sg34 Hr.out) Tryd.underlying9 rfl ?_; simp only [Act.put, List.setIfInBounds_toArray, List.set_cons_succ, List.set_cons_zero])
    | (refine wpQuiet_load_one rfl 22 _ rfl ⟨w.heap.size, 35, none⟩ rfl (.slice a 3 cap) _ (by rintro _ ⟨q, rfl⟩; exact (HB1.out.later (lat_below q)).sg35 Hr.out) Tryd.underlying22 rfl ?_; simp only [Act.put, List.setIfInBounds_toArray, List.set_cons_succ, List.set_cons_zero])
    | (refine wpQuiet_load_hcG rfl 29 _ rfl ⟨w.heap.size, 1, none⟩ rfl root _ (by rintro _ ⟨q, rfl⟩; exact (HB1.out.later (lat_below q)).sgRoot Hr.out) Tryd.underlying29 rfl Hsh.out ?_; simp only [Act.put, List.setIfInBounds_toArray, List.set_cons_succ, List.set_cons_zero])
    | go_big_quiet_step ((first | (go_at_call 80; with_reducible exact calls_later (C1.out _)) | (go_at_call 80; with_reducible exact calls_later (C2.out _)) | (go_at_call 99; with_reducible exact calls_later (C3.out _)) | (go_at_call 65; with_reducible exact calls_later (C4.out _)) | (go_at_call 83; with_reducible exact calls_later (C5.out _)))))
  refine wpQuiet_nil ?_
  rintro _ ⟨q6, rfl⟩
  have hb6 := lat_below q6
  generalize lat q6 = w6 at *
  go_wp2
  go_ret2
  exact ⟨rfl, HW1.out.trans (hb6.mono HW1.out.size)⟩
theorem valid_no (z i : Int) (root sig : List UInt8) (a : Option Addr) (n cap : Nat) (w : World) (hr : root.length = 32) (hv : validB z i sig n = false) :
    Calls Tryd.prog 111 #[.agg (sgA z root i sig (.slice a n cap))] w fun e w' => e = .returned (.bool false) ∧ Below w.heap.size w w' :=
  (valid_any z i root sig a n cap w hr).mono fun _ _ ⟨x, y⟩ => ⟨by rw [x, hv], y⟩
set_option maxHeartbeats 2000000 in
theorem sput_no (z i : Int) (root sig : List UInt8) (a : Option Addr) (n cap : Nat) (w : World) (hr : root.length = 32) (hv : validB z i sig n = false) :
    Calls Tryd.prog 98 #[.agg (sgA z root i sig (.slice a n cap))] w fun e w' => e = .returned (.tuple #[sv [], .int .i64 2]) ∧ Below w.heap.size w w' := by
  have V := hid (fun w0 => valid_no z i root sig a n cap w0 hr hv)
  have Hsz := hid (show (Tryd.prog.info? 92).map (·.size) = some (sgA z root i sig (.slice a n cap)).size by rw [sgA_size hr]; exact Tryd.sizeSigned)
  clear hv
  have HB0 : Hid (Blk (w.alloc (.cells (sgA z root i sig (.slice a n cap)) 92)) w.heap.size (sgA z root i sig (.slice a n cap)) 92) := hid (Blk.new _ _ _)
  go_enter Tryd.func98, Tryd.ntmps98
  go_wp2_with (first
    | ((with_reducible show wpList _ _ _ ({ dst := _, op := Op.load 92 _, type := _, pos := _, after := _, guard := _ } :: _) _ _); refine wpList_load_blk rfl 92 _ rfl w.heap.size rfl 92 _ _ HB0.out Tryd.underlying92 rfl Hsz.out ?_)
    | (go_at_call 111; refine (V.out _).mono ?_; rintro e w1 ⟨rfl, hb1⟩))
  go_ret2
  exact ⟨rfl, ((Below.refl _ w).alloc (Nat.le_refl _) (.cells (sgA z root i sig (.slice a n cap)) 92)).trans (hb1.mono (by simp))⟩
theorem rvalid_yes (z i : Nat) (root sig : List UInt8) (a : Option Addr) (cap : Nat) (w : World) (hr : root.length = 32) (hz : z ≤ 4096) (hi : i < 8) (hs : sig.length = 16384) :
    Calls Tryd.prog 114 #[.agg (sgA z root i sig (.slice a 3 cap))] w fun e w' => e = .returned (.bool true) ∧ Below w.heap.size w w' :=
  (rvalid_any z i root sig a 3 cap w hr).mono fun _ _ ⟨x, y⟩ => ⟨by rw [x]; simp [validB]; omega, y⟩
set_option maxHeartbeats 2000000 in
theorem rsput_yes (z i : Nat) (root sig : List UInt8) (path : List (List UInt8)) (a : Option Addr) (cap : Nat) (w : World) (hr : root.length = 32) (hz : z ≤ 4096) (hi : i < 8) (hs : sig.length = 16384) (hp : path.length = 3) (hat : SlAt w 32 (.slice a 3 cap) (hcs path)) :
    Calls Tryd.prog 104 #[.agg (sgA z root i sig (.slice a 3 cap))] w fun e w' => e = .returned (.tuple #[sv (putS z root i sig path), .int .i64 0]) ∧ Below w.heap.size w w' := by
  have Hat := hid hat
  have V := hid (fun w0 => rvalid_yes z i root sig a cap w0 hr hz hi hs)
  have Hsz := hid (show (Tryd.prog.info? 92).map (·.size) = some (sgA z root i sig (.slice a 3 cap)).size by rw [sgA_size hr]; exact Tryd.sizeSigned)
  have Hsh := hid (show (Tryd.prog.info? 29).map (·.size) = some root.length by rw [hr]; exact Tryd.sizeHash)
  have Hr := hid hr
  have HS := hid hs
  have HP := hid hp
  have hn1 := numL_len z (by omega); have hn2 := numL_len i (by omega); have hn3 := numL_len sig.length (by omega)
  have hpl : (hashesL path).length ≤ 106 := by
    rw [hashesL, if_neg (by omega), List.length_append, flatten_len hat.len32]
    have := numL_len path.length (by omega)
    omega
  have hsl : sig.length ≤ 16384 := by omega
  have hrl : root.length ≤ 32 := by omega
  clear hat hs hp
  have HB0 : Hid (Blk (w.alloc (.cells (sgA z root i sig (.slice a 3 cap)) 92)) w.heap.size (sgA z root i sig (.slice a 3 cap)) 92) := hid (Blk.new _ _ _)
  go_enter Tryd.func104, Tryd.ntmps104
  go_upto_region 3 with (first
    | ((with_reducible show wpList _ _ _ ({ dst := _, op := Op.load 92 _, type := _, pos := _, after := _, guard := _ } :: _) _ _); refine wpList_load_blk rfl 92 _ rfl w.heap.size rfl 92 _ _ HB0.out Tryd.underlying92 rfl Hsz.out ?_)
    | (go_at_call 114; refine (V.out _).mono ?_; rintro e w1 ⟨rfl, hb1⟩))
  have HB1 := hid (HB0.out.later hb1)
  have HW1 := hid (((Below.refl _ w).alloc (Nat.le_refl _) (.cells (sgA z root i sig (.slice a 3 cap)) 92)).trans (hb1.mono (by simp)))
  have C1 := hid (fun x : Later w1 => rnum_any z (lat x) (by omega))
  have C2 := hid (fun x : Later w1 => rnum_any i (lat x) (by omega))
  have C3 := hid (fun x : Later w1 => rtext_any sig (lat x) (by omega))
  have C4 := hid (fun x : Later w1 => rhash_any root (lat x) Hr.out)
  have C5 := hid (fun x : Later w1 => rhashes_any _ path (lat x) ((Hat.out.below HW1.out (Nat.le_refl _)).below (lat_below x) (Nat.le_refl _)) (by rw [HP.out]; omega))
  clear hb1 HB0 hr
  refine wp_region_later (by kernel_rfl) (by kernel_rfl) ?_
  repeat (first
    | (refine wpQuiet_load_one rfl 3 _ rfl ⟨w.heap.size, 0, none⟩ rfl (.int .i64 z) _ (by rintro _ ⟨q, rfl⟩; exact (HB1.out.later (lat_below q)).sg0) Tryd.underlying3 rfl ?_; simp only [Act.put, List.setIfInBounds_toArray, List.set_cons_succ, List.set_cons_zero])
    | (refine wpQuiet_load_one rfl 3 _ rfl ⟨w.heap.size, 33, none⟩ rfl (.int .i64 i) _ (by rintro _ ⟨q, rfl⟩; exact (HB1.out.later (lat_below q)).sg33 Hr.out) Tryd.underlying3 rfl ?_; simp only [Act.put, List.setIfInBounds_toArray, List.set_cons_succ, List.set_cons_zero])
    | (refine wpQuiet_load_one rfl 9 _ rfl ⟨w.heap.size, 34, none⟩ rfl (sv sig) _ (by rintro _ ⟨q, rfl⟩; exact (HB1.out.later (lat_below q)).sg34 Hr.out) Tryd.underlying9 rfl ?_; simp only [Act.put, List.setIfInBounds_toArray, List.set_cons_succ, List.set_cons_zero])
    | (refine wpQuiet_load_one rfl 22 _ rfl ⟨w.heap.size, 35, none⟩ rfl (.slice a 3 cap) _ (by rintro _ ⟨q, rfl⟩; exact (HB1.out.later (lat_below q)).sg35 Hr.out) Tryd.underlying22 rfl ?_; simp only [Act.put, List.setIfInBounds_toArray, List.set_cons_succ, List.set_cons_zero])
    | (refine wpQuiet_load_hcG rfl 29 _ rfl ⟨w.heap.size, 1, none⟩ rfl root _ (by rintro _ ⟨q, rfl⟩; exact (HB1.out.later (lat_below q)).sgRoot Hr.out) Tryd.underlying29 rfl Hsh.out ?_; simp only [Act.put, List.setIfInBounds_toArray, List.set_cons_succ, List.set_cons_zero])
    | go_big_quiet_step ((first | (go_at_call 103; with_reducible exact calls_later (C1.out _)) | (go_at_call 103; with_reducible exact calls_later (C2.out _)) | (go_at_call 88; with_reducible exact calls_later (C3.out _)) | (go_at_call 93; with_reducible exact calls_later (C4.out _)) | (go_at_call 89; with_reducible exact calls_later (C5.out _)))))
  refine wpQuiet_nil ?_
  rintro _ ⟨q6, rfl⟩
  have hb6 := lat_below q6
  generalize lat q6 = w6 at *
  go_wp2
  go_ret2
  exact ⟨rfl, HW1.out.trans (hb6.mono HW1.out.size)⟩
theorem rvalid_no (z i : Int) (root sig : List UInt8) (a : Option Addr) (n cap : Nat) (w : World) (hr : root.length = 32) (hv : validB z i sig n = false) :
    Calls Tryd.prog 114 #[.agg (sgA z root i sig (.slice a n cap))] w fun e w' => e = .returned (.bool false) ∧ Below w.heap.size w w' :=
  (rvalid_any z i root sig a n cap w hr).mono fun _ _ ⟨x, y⟩ => ⟨by rw [x, hv], y⟩
set_option maxHeartbeats 2000000 in
theorem rsput_no (z i : Int) (root sig : List UInt8) (a : Option Addr) (n cap : Nat) (w : World) (hr : root.length = 32) (hv : validB z i sig n = false) :
    Calls Tryd.prog 104 #[.agg (sgA z root i sig (.slice a n cap))] w fun e w' => e = .returned (.tuple #[sv [], .int .i64 2]) ∧ Below w.heap.size w w' := by
  have V := hid (fun w0 => rvalid_no z i root sig a n cap w0 hr hv)
  have Hsz := hid (show (Tryd.prog.info? 92).map (·.size) = some (sgA z root i sig (.slice a n cap)).size by rw [sgA_size hr]; exact Tryd.sizeSigned)
  clear hv
  have HB0 : Hid (Blk (w.alloc (.cells (sgA z root i sig (.slice a n cap)) 92)) w.heap.size (sgA z root i sig (.slice a n cap)) 92) := hid (Blk.new _ _ _)
  go_enter Tryd.func104, Tryd.ntmps104
  go_wp2_with (first
    | ((with_reducible show wpList _ _ _ ({ dst := _, op := Op.load 92 _, type := _, pos := _, after := _, guard := _ } :: _) _ _); refine wpList_load_blk rfl 92 _ rfl w.heap.size rfl 92 _ _ HB0.out Tryd.underlying92 rfl Hsz.out ?_)
    | (go_at_call 114; refine (V.out _).mono ?_; rintro e w1 ⟨rfl, hb1⟩))
  go_ret2
  exact ⟨rfl, ((Below.refl _ w).alloc (Nat.le_refl _) (.cells (sgA z root i sig (.slice a n cap)) 92)).trans (hb1.mono (by simp))⟩
end Go.Proofs.YtbpjlancjdbehaaDoor
/- Rows of heads and of signed heads. -/
namespace Go.Spec
open Go.RowKit
theorem flat_getG (size : Nat) : ∀ (css : List (List Value)), (∀ x ∈ css, x.length = size) → ∀ (i : Nat) (hi : i < css.length) (j : Nat), j < size → css.flatten[i * size + j]? = (css[i])[j]?
  | [], _, i, hi, _, _ => by simp at hi
  | x :: xs, h, 0, _, j, hj => by
    have hx : x.length = size := h x List.mem_cons_self
    rw [List.flatten_cons, List.getElem?_append_left (by omega)]; simp
  | x :: xs, h, i + 1, hi, j, hj => by
    have hx : x.length = size := h x List.mem_cons_self
    rw [List.flatten_cons, Nat.add_mul, Nat.one_mul, List.getElem?_append_right (by omega), show i * size + size + j - x.length = i * size + j by omega]
    rw [flat_getG size xs (fun y hy => h y (List.mem_cons_of_mem _ hy)) i (by simpa using hi) j hj]
    simp
theorem SlAt.of_ownsG {w : World} {base e size : Nat} {v : Value} {css : List (List Value)} (h : w.ownsRow base e size v css.length css.flatten) (hs : ∀ x ∈ css, x.length = size) : SlAt w size v css := by
  rcases h.2 with ⟨rfl, h0⟩ | ⟨g, cap, cur, rfl, hb, hg, hnc, hcm, _⟩
  · have : css = [] := List.eq_nil_of_length_eq_zero h0
    subst this
    exact ⟨none, 0, rfl, Nat.le_refl _, fun _ h => by simp at h, fun i cs h => by simp at h⟩
  · refine ⟨_, cap, rfl, hnc, hs, fun i cs hi => ⟨g, 0, rfl, (Array.getElem?_eq_some_iff.1 hg).1, fun j u hj => ?_⟩⟩
    have hi' : i < css.length := (List.getElem?_eq_some_iff.1 hi).1
    have he : cs = css[i] := by rw [List.getElem?_eq_getElem hi'] at hi; injection hi with hi; exact hi.symm
    subst he
    have hj' : j < size := by
      have := (List.getElem?_eq_some_iff.1 hj).1
      rwa [hs _ (List.getElem_mem hi')] at this
    have hx := h.cells (g := g) rfl (i * size + j) u (by rw [flat_getG size css hs i hi' j hj']; exact hj)
    rw [Addr.add_lit] at hx
    rw [show 0 + i * size + j = 0 + (i * size + j) by omega]
    exact hx
theorem SlAt.nilG (w : World) (size : Nat) : SlAt w size (.slice none 0 0) [] := ⟨none, 0, rfl, Nat.le_refl _, fun _ h => by simp at h, fun i cs h => by simp at h⟩
/-- a head -/
structure Hd where
  z : Int
  r : List UInt8
/-- its cells -/
def Hd.L (h : Hd) : List Value := (hdA h.z h.r).toList
structure HdsAt (w : World) (v : Value) (hs : List Hd) : Prop where
  at_ : SlAt w 33 v (hs.map Hd.L)
  ok : ∀ h ∈ hs, h.r.length = 32
/-- a signed head: its path lies at a, with so much room -/
structure Sg where
  z : Int
  root : List UInt8
  i : Int
  sig : List UInt8
  path : List (List UInt8)
  a : Option Addr
  cap : Nat
abbrev Sg.p (d : Sg) : Value := .slice d.a d.path.length d.cap
def Sg.L (d : Sg) : List Value := (sgA d.z d.root d.i d.sig d.p).toList
structure Sg.In (w : World) (d : Sg) : Prop where
  r32 : d.root.length = 32
  at_ : SlAt w 32 d.p (hcs d.path)
  sl : d.sig.length ≤ 1000000000
  pl : d.path.length ≤ 1000000000
theorem Sg.In.below {w w' : World} {d : Sg} (h : d.In w) (hb : Below w.heap.size w w') : d.In w' := ⟨h.r32, h.at_.below hb (Nat.le_refl _), h.sl, h.pl⟩
structure SgsAt (w : World) (v : Value) (ds : List Sg) : Prop where
  at_ : SlAt w 36 v (ds.map Sg.L)
  ok : ∀ d ∈ ds, d.In w
theorem SgsAt.below {w w' : World} {v : Value} {ds : List Sg} (h : SgsAt w v ds) (hb : Below w.heap.size w w') : SgsAt w' v ds := ⟨h.at_.below hb (Nat.le_refl _), fun d hd => (h.ok d hd).below hb⟩
theorem HdsAt.below {w w' : World} {v : Value} {hs : List Hd} (h : HdsAt w v hs) (hb : Below w.heap.size w w') : HdsAt w' v hs := ⟨h.at_.below hb (Nat.le_refl _), h.ok⟩
theorem SgsAt.form {w : World} {v : Value} {ds : List Sg} (h : SgsAt w v ds) : ∃ a cap, v = .slice a ds.length cap ∧ ds.length ≤ cap := by
  have := h.at_.form
  rwa [List.length_map] at this
theorem HdsAt.form {w : World} {v : Value} {hs : List Hd} (h : HdsAt w v hs) : ∃ a cap, v = .slice a hs.length cap ∧ hs.length ≤ cap := by
  have := h.at_.form
  rwa [List.length_map] at this
theorem SgsAt.get {w : World} {a : Option Addr} {n cap : Nat} {ds : List Sg} (h : SgsAt w (.slice a n cap) ds) {i : Nat} (hi : i < ds.length) :
    ∃ b o, a = some ⟨b, o, none⟩ ∧ b < w.heap.size ∧ (∀ j u, (sgA ds[i].z ds[i].root ds[i].i ds[i].sig ds[i].p).toList[j]? = some u → w.cell? ((⟨b, o + i * 36, none⟩ : Addr).add j) = some u) := by
  obtain ⟨b, o, ha, hb, _, hc⟩ := h.at_.at (i := i) (cs := ds[i].L) (by simp [hi])
  exact ⟨b, o, ha, hb, hc⟩
theorem HdsAt.get {w : World} {a : Option Addr} {n cap : Nat} {hs : List Hd} (h : HdsAt w (.slice a n cap) hs) {i : Nat} (hi : i < hs.length) :
    ∃ b o, a = some ⟨b, o, none⟩ ∧ b < w.heap.size ∧ (∀ j u, (hdA hs[i].z hs[i].r).toList[j]? = some u → w.cell? ((⟨b, o + i * 33, none⟩ : Addr).add j) = some u) := by
  obtain ⟨b, o, ha, hb, _, hc⟩ := h.at_.at (i := i) (cs := hs[i].L) (by simp [hi])
  exact ⟨b, o, ha, hb, hc⟩
theorem SgsAt.nil (w : World) : SgsAt w (.slice none 0 0) [] := ⟨SlAt.nilG w 36, fun _ h => by simp at h⟩
theorem HdsAt.nil (w : World) : HdsAt w (.slice none 0 0) [] := ⟨SlAt.nilG w 33, fun _ h => by simp at h⟩
/-- the cells of signed heads, one behind the other -/
def sgF (ds : List Sg) : List Value := (ds.map Sg.L).flatten
def hdF (hs : List Hd) : List Value := (hs.map Hd.L).flatten
theorem sgF_snoc (ds : List Sg) (d : Sg) : sgF (ds ++ [d]) = sgF ds ++ d.L := by unfold sgF; rw [List.map_append, List.flatten_append]; simp
theorem hdF_snoc (hs : List Hd) (h : Hd) : hdF (hs ++ [h]) = hdF hs ++ h.L := by unfold hdF; rw [List.map_append, List.flatten_append]; simp
theorem Sg.L_len {d : Sg} (h : d.root.length = 32) : d.L.length = 36 := by
  have := sgA_size (z := d.z) (i := d.i) (sig := d.sig) (p := d.p) h
  unfold Sg.L; rw [Array.length_toList]; exact this
theorem Hd.L_len {d : Hd} (h : d.r.length = 32) : d.L.length = 33 := by
  have := hdA_size (z := d.z) h
  unfold Hd.L; rw [Array.length_toList]; exact this
theorem SgsAt.of_owns {w : World} {base e : Nat} {v : Value} {ds : List Sg} (h : w.ownsRow base e 36 v ds.length (sgF ds)) (ok : ∀ d ∈ ds, d.In w) : SgsAt w v ds := by
  refine ⟨SlAt.of_ownsG (base := base) (e := e) (by rw [List.length_map]; exact h) ?_, ok⟩
  intro x hx
  simp only [List.mem_map] at hx
  obtain ⟨d, hd, rfl⟩ := hx
  exact Sg.L_len (ok d hd).r32
theorem HdsAt.of_owns {w : World} {base e : Nat} {v : Value} {hs : List Hd} (h : w.ownsRow base e 33 v hs.length (hdF hs)) (ok : ∀ d ∈ hs, d.r.length = 32) : HdsAt w v hs := by
  refine ⟨SlAt.of_ownsG (base := base) (e := e) (by rw [List.length_map]; exact h) ?_, ok⟩
  intro x hx
  simp only [List.mem_map] at hx
  obtain ⟨d, hd, rfl⟩ := hx
  exact Hd.L_len (ok d hd)
end Go.Spec
namespace Go.Proofs.YtbpjlancjdbehaaDoor
open Go.RowKit Go.Spec
def _root_.Go.Spec.Sg.valid (d : Sg) : Bool := validB d.z d.i d.sig d.path.length
def _root_.Go.Spec.Sg.bytes (d : Sg) : List UInt8 := putS d.z.toNat d.root d.i.toNat d.sig d.path
/-- bytes and an error's number -/
def putR : Option (List UInt8) → Value
  | some s => .tuple #[sv s, .int .i64 0]
  | none => .tuple #[sv [], .int .i64 2]
def _root_.Go.Spec.Sg.put (d : Sg) : Option (List UInt8) := if d.valid then some d.bytes else none
theorem validB_iff {z i : Int} {sig : List UInt8} {n : Nat} : validB z i sig n = true ↔ (0 ≤ z ∧ z ≤ 4096) ∧ 0 ≤ i ∧ i < 8 ∧ sig.length = 16384 ∧ n = 3 := by
  simp [validB, and_assoc]
theorem sput_any (d : Sg) (w : World) (h : d.In w) :
    Calls Tryd.prog 98 #[.agg (sgA d.z d.root d.i d.sig d.p)] w fun e w' => e = .returned (putR d.put) ∧ Below w.heap.size w w' := by
  obtain ⟨z, root, i, sig, path, a, cap⟩ := d
  unfold Sg.put Sg.valid Sg.bytes
  cases hv : validB z i sig path.length with
  | true =>
    obtain ⟨⟨h1, h2⟩, h3, h4, h5, h6⟩ := validB_iff.1 hv
    obtain ⟨zn, rfl⟩ : ∃ n : Nat, z = n := ⟨z.toNat, by omega⟩
    obtain ⟨jn, rfl⟩ : ∃ n : Nat, i = n := ⟨i.toNat, by omega⟩
    have := sput_yes zn jn root sig path a cap w h.r32 (by omega) (by omega) h5 h6 (by have := h.at_; simpa only [Sg.p, h6] using this)
    simp only [Sg.p, h6, Int.toNat_natCast, if_true]
    exact this
  | false =>
    have := sput_no z i root sig a path.length cap w h.r32 hv
    simpa [Sg.p, putR] using this
theorem rsput_any (d : Sg) (w : World) (h : d.In w) :
    Calls Tryd.prog 104 #[.agg (sgA d.z d.root d.i d.sig d.p)] w fun e w' => e = .returned (putR d.put) ∧ Below w.heap.size w w' := by
  obtain ⟨z, root, i, sig, path, a, cap⟩ := d
  unfold Sg.put Sg.valid Sg.bytes
  cases hv : validB z i sig path.length with
  | true =>
    obtain ⟨⟨h1, h2⟩, h3, h4, h5, h6⟩ := validB_iff.1 hv
    obtain ⟨zn, rfl⟩ : ∃ n : Nat, z = n := ⟨z.toNat, by omega⟩
    obtain ⟨jn, rfl⟩ : ∃ n : Nat, i = n := ⟨i.toNat, by omega⟩
    have := rsput_yes zn jn root sig path a cap w h.r32 (by omega) (by omega) h5 h6 (by have := h.at_; simpa only [Sg.p, h6] using this)
    simp only [Sg.p, h6, Int.toNat_natCast, if_true]
    exact this
  | false =>
    have := rsput_no z i root sig a path.length cap w h.r32 hv
    simpa [Sg.p, putR] using this
theorem bytes_len (d : Sg) (hv : d.valid = true) (hr : d.root.length = 32) (h32 : ∀ x ∈ d.path, x.length = 32) : d.bytes.length ≤ 17000 := by
  obtain ⟨⟨h1, h2⟩, h3, h4, h5, h6⟩ := validB_iff.1 hv
  have e1 := numL_len d.z.toNat (by omega)
  have e2 := numL_len d.i.toNat (by omega)
  have e3 := numL_len d.sig.length (by omega)
  have e4 := numL_len d.path.length (by omega)
  have e5 : (hashesL d.path).length ≤ 106 := by
    rw [hashesL, if_neg (by omega), List.length_append, flatten_len h32]; omega
  unfold Sg.bytes putS
  simp only [List.length_append]
  omega
end Go.Proofs.YtbpjlancjdbehaaDoor
/- gossip.PutKnown, and the document's -/
namespace Go.Spec
open Go.RowKit
theorem HdsAt.cells {w : World} {a : Option Addr} {n cap : Nat} {hs : List Hd} (h : HdsAt w (.slice a n cap) hs) {i : Nat} (hi : i < hs.length) :
    ∃ b o, a = some ⟨b, o, none⟩ ∧ b < w.heap.size ∧ w.cell? ⟨b, o + i * 33, none⟩ = some (.int .i64 hs[i].z) ∧ (∀ j u, (hs[i].r.map bcell)[j]? = some u → w.cell? ((⟨b, o + i * 33 + 1, none⟩ : Addr).add j) = some u) := by
  obtain ⟨b, o, ha, hb, hc⟩ := h.get hi
  refine ⟨b, o, ha, hb, ?_, fun j u hj => ?_⟩
  · have := hc 0 (.int .i64 hs[i].z) (by simp [hdA])
    rwa [Addr.add_lit] at this
  · have := hc (j + 1) u (by simpa [hdA] using hj)
    rw [Addr.add_lit] at this ⊢
    rw [show o + i * 33 + 1 + j = o + i * 33 + (j + 1) by omega]
    exact this
end Go.Spec
namespace Go.Proofs.YtbpjlancjdbehaaDoor
open Go.RowKit Go.Spec
end Go.Proofs.YtbpjlancjdbehaaDoor
/- gossip.count: a letter, and a number behind it -/
namespace Go.Proofs.YtbpjlancjdbehaaDoor
open Go.RowKit Go.Spec
/-- what stands behind a letter -/
def behind (l : List UInt8) (c : UInt8) : Option (List UInt8) := match l with
  | x :: r => if x = c then some r else none
  | [] => none
theorem behind_some {l r : List UInt8} {c : UInt8} (h : behind l c = some r) : l = c :: r := by
  unfold behind at h
  split at h
  · split at h
    · rename_i hx; injection h with h; rw [hx, h]
    · cases h
  · cases h
theorem behind_cons (r : List UInt8) (c : UInt8) : behind (c :: r) c = some r := by simp [behind]
end Go.Proofs.YtbpjlancjdbehaaDoor
/- Heads out of bytes: plain laws -/
namespace Go.Proofs.YtbpjlancjdbehaaDoor
open Go.RowKit Go.Spec
theorem rdR_le (l : List UInt8) : (rdR l).length ≤ l.length := by
  unfold rdR
  split
  · rename_i n r h
    have := (rd_some l 0 n r (by omega) h).2
    omega
  · simp
end Go.Proofs.YtbpjlancjdbehaaDoor
/- Requests as bytes: plain laws -/
namespace Go.Proofs.YtbpjlancjdbehaaDoor
open Go.RowKit Go.Spec
/-- a request -/
structure Rq where
  id : Int
  kind : Int
  fr : Int
  count : Int
  size : Int
def Rq.cs (r : Rq) : Array Value := #[.int .i64 r.id, .int .i64 r.kind, .int .i64 r.fr, .int .i64 r.count, .int .i64 r.size]
abbrev Rq.v (r : Rq) : Value := .agg r.cs
/-- its numbers that its kind has -/
def Rq.more (r : Rq) : List Int := if r.kind = 2 then [r.fr, r.count, r.size] else if r.kind = 3 ∨ r.kind = 4 then [r.fr, r.size] else []
def Rq.nums (r : Rq) : List Int := r.id :: r.kind :: r.more
def goodZ (n : Int) : Bool := decide (0 ≤ n) && decide (n ≤ 1073741824)
def numsT (l : List Int) : List UInt8 := (l.map fun n => numL n.toNat).flatten
def kindB (k : Int) : Bool := decide (1 ≤ k) && decide (k ≤ 5)
def putRq (r : Rq) : Option (List UInt8) := if kindB r.kind && r.nums.all goodZ then some (81 :: numsT r.nums) else none
/-- a reader: what is left, and whether all went well -/
abbrev Rds := List UInt8 × Bool
def nuB (x : Rds) (most : Nat) : Bool := x.2 && rdB x.1 && decide (rdN x.1 ≤ most)
def nuN (x : Rds) (most : Nat) : Nat := if nuB x most then rdN x.1 else 0
def nuS (x : Rds) (most : Nat) : Rds := (rdR x.1, nuB x most)
/-- a reader behind a letter -/
def beS (l : List UInt8) (c : UInt8) : Rds := if l.length ≤ 65536 then (match behind l c with | some r => (r, true) | none => ([], false)) else ([], false)
def nusL : Nat → Rds → List Nat
  | 0, _ => []
  | n + 1, x => nuN x 1073741824 :: nusL n (nuS x 1073741824)
def nusS : Nat → Rds → Rds
  | 0, x => x
  | n + 1, x => nusS n (nuS x 1073741824)
def moreN (k : Nat) : Nat := if k = 2 then 3 else if k = 3 ∨ k = 4 then 2 else 0
def rqOf (id k : Nat) (l : List Nat) : Rq := if k = 2 then ⟨id, k, (l.getD 0 0 : Nat), (l.getD 1 0 : Nat), (l.getD 2 0 : Nat)⟩ else if k = 3 ∨ k = 4 then ⟨id, k, (l.getD 0 0 : Nat), 0, (l.getD 1 0 : Nat)⟩ else ⟨id, k, 0, 0, 0⟩
def getRq (l : List UInt8) : Option Rq :=
  let x := beS l 81
  let y := nuS x 1073741824
  let k := nuN y 5
  let z := nuS y 5
  let e := nusS (moreN k) z
  if e.2 && e.1 == [] && decide (1 ≤ k) then some (rqOf (nuN x 1073741824) k (nusL (moreN k) z)) else none
theorem rd_parts (n : Nat) (r : List UInt8) (h : n < 18446744073709551616) : rdB (numL n ++ r) = true ∧ rdN (numL n ++ r) = n ∧ rdR (numL n ++ r) = r := by
  have := rd_num n h r
  unfold rdB rdN rdR
  rw [this]
  exact ⟨rfl, rfl, rfl⟩
theorem nu_put (n most : Nat) (r : List UInt8) (h : n ≤ most) (hm : most < 18446744073709551616) : nuN (numL n ++ r, true) most = n ∧ nuS (numL n ++ r, true) most = (r, true) := by
  obtain ⟨h1, h2, h3⟩ := rd_parts n r (by omega)
  have hb : nuB (numL n ++ r, true) most = true := by unfold nuB; simp [h1, h2, h]
  exact ⟨by unfold nuN; rw [hb]; simp [h2], by unfold nuS; rw [hb]; simp [h3]⟩
theorem nu_back (x : Rds) (most : Nat) (h : (nuS x most).2 = true) : x.2 = true ∧ x.1 = numL (nuN x most) ++ (nuS x most).1 ∧ nuN x most ≤ most := by
  have hb : nuB x most = true := h
  have hn : nuN x most = rdN x.1 := by unfold nuN; rw [hb]; rfl
  unfold nuB at hb
  simp only [Bool.and_eq_true, decide_eq_true_eq] at hb
  obtain ⟨⟨h1, h2⟩, h3⟩ := hb
  refine ⟨h1, ?_, by rw [hn]; exact h3⟩
  have := ((form_rd x.1).1 h2).1
  rw [hn]
  show x.1 = numL (rdN x.1) ++ rdR x.1
  exact (by simpa using this : numL (rdN x.1) ++ rdR x.1 = x.1).symm
theorem nu_zero (x : Rds) (most : Nat) (h : (nuS x most).2 = false) : nuN x most = 0 := by
  have hb : nuB x most = false := h
  unfold nuN; rw [hb]; rfl
theorem nuN_le (x : Rds) (most : Nat) : nuN x most ≤ most := by
  cases h : (nuS x most).2 with
  | true => exact (nu_back x most h).2.2
  | false => rw [nu_zero x most h]; omega
theorem nusL_len : ∀ n x, (nusL n x).length = n
  | 0, _ => rfl
  | n + 1, x => by rw [nusL, List.length_cons, nusL_len]
theorem nus_put : ∀ (l : List Nat) (r : List UInt8), (∀ n ∈ l, n ≤ 1073741824) → nusL l.length ((l.map numL).flatten ++ r, true) = l ∧ nusS l.length ((l.map numL).flatten ++ r, true) = (r, true)
  | [], r, _ => ⟨rfl, rfl⟩
  | n :: l, r, h => by
    have h0 := nu_put n 1073741824 ((l.map numL).flatten ++ r) (h n (by simp)) (by decide)
    have ih := nus_put l r (fun m hm => h m (by simp [hm]))
    simp only [List.map_cons, List.flatten_cons, List.append_assoc, List.length_cons, nusL, nusS]
    rw [h0.1, h0.2, ih.1, ih.2]
    exact ⟨rfl, rfl⟩
theorem nus_back : ∀ (n : Nat) (x : Rds), (nusS n x).2 = true → x.2 = true ∧ x.1 = ((nusL n x).map numL).flatten ++ (nusS n x).1 ∧ ∀ m ∈ nusL n x, m ≤ 1073741824
  | 0, x, h => ⟨h, rfl, fun m hm => by simp [nusL] at hm⟩
  | n + 1, x, h => by
    obtain ⟨h1, h2, h3⟩ := nus_back n (nuS x 1073741824) h
    obtain ⟨k1, k2, k3⟩ := nu_back x 1073741824 h1
    refine ⟨k1, ?_, ?_⟩
    · show x.1 = _
      conv => lhs; rw [k2]
      rw [h2, nusL, nusS, List.map_cons, List.flatten_cons, List.append_assoc]
    · intro m hm
      rw [nusL, List.mem_cons] at hm
      rcases hm with rfl | hm
      · exact k3
      · exact h3 m hm
theorem beS_back (l : List UInt8) (c : UInt8) (h : (beS l c).2 = true) : l = c :: (beS l c).1 ∧ l.length ≤ 65536 := by
  unfold beS at *
  split at h
  · rename_i hl
    cases hb : behind l c with
    | none => rw [hb] at h; cases h
    | some r => rw [if_pos hl]; exact ⟨behind_some hb, hl⟩
  · cases h
theorem beS_put (r : List UInt8) (c : UInt8) (h : r.length < 65536) : beS (c :: r) c = (r, true) := by
  unfold beS
  rw [if_pos (by simp; omega), behind_cons]
/-- the numbers that a kind does not have are none -/
def Rq.canon (r : Rq) : Rq := if r.kind = 2 then r else if r.kind = 3 ∨ r.kind = 4 then { r with count := 0 } else { r with fr := 0, count := 0, size := 0 }
theorem goodZ_iff {n : Int} : goodZ n = true ↔ 0 ≤ n ∧ n ≤ 1073741824 := by unfold goodZ; simp
theorem kindB_iff {n : Int} : kindB n = true ↔ 1 ≤ n ∧ n ≤ 5 := by unfold kindB; simp
theorem numL_len30 (n : Nat) (h : n ≤ 1073741824) : (numL n).length ≤ 10 := numL_len n (by omega)
theorem nums_len : ∀ (l : List Nat), (∀ n ∈ l, n ≤ 1073741824) → ((l.map numL).flatten).length ≤ 10 * l.length
  | [], _ => by simp
  | n :: l, h => by
    have h1 := numL_len30 n (h n (by simp))
    have h2 := nums_len l (fun m hm => h m (by simp [hm]))
    simp only [List.map_cons, List.flatten_cons, List.length_append, List.length_cons]
    omega
/-- a request that may be, with numbers of Nat -/
theorem putRq_nat {r : Rq} {t : List UInt8} (h : putRq r = some t) : ∃ id k : Nat, ∃ l : List Nat, r.canon = rqOf id k l ∧ l.length = moreN k ∧ 1 ≤ k ∧ k ≤ 5 ∧ id ≤ 1073741824 ∧ (∀ n ∈ l, n ≤ 1073741824) ∧ t = 81 :: (numL id ++ (numL k ++ (l.map numL).flatten)) := by
  unfold putRq at h
  split at h
  · rename_i hg
    injection h with h
    subst h
    obtain ⟨id, k, f, c, s⟩ := r
    simp only [Bool.and_eq_true, kindB_iff] at hg
    obtain ⟨⟨hk1, hk2⟩, hall⟩ := hg
    rcases (by omega : k = 1 ∨ k = 2 ∨ k = 3 ∨ k = 4 ∨ k = 5) with rfl | rfl | rfl | rfl | rfl <;>
      simp [Rq.nums, Rq.more, goodZ_iff] at hall
    · obtain ⟨i, rfl⟩ : ∃ i : Nat, id = i := ⟨id.toNat, by omega⟩
      exact ⟨i, 1, [], rfl, rfl, by omega, by omega, by omega, by simp, by simp [Rq.nums, Rq.more, numsT]⟩
    · obtain ⟨i, rfl⟩ : ∃ i : Nat, id = i := ⟨id.toNat, by omega⟩
      obtain ⟨a, rfl⟩ : ∃ i : Nat, f = i := ⟨f.toNat, by omega⟩
      obtain ⟨b, rfl⟩ : ∃ i : Nat, c = i := ⟨c.toNat, by omega⟩
      obtain ⟨d, rfl⟩ : ∃ i : Nat, s = i := ⟨s.toNat, by omega⟩
      exact ⟨i, 2, [a, b, d], rfl, rfl, by omega, by omega, by omega, by simp; omega, by simp [Rq.nums, Rq.more, numsT]⟩
    · obtain ⟨i, rfl⟩ : ∃ i : Nat, id = i := ⟨id.toNat, by omega⟩
      obtain ⟨a, rfl⟩ : ∃ i : Nat, f = i := ⟨f.toNat, by omega⟩
      obtain ⟨d, rfl⟩ : ∃ i : Nat, s = i := ⟨s.toNat, by omega⟩
      exact ⟨i, 3, [a, d], rfl, rfl, by omega, by omega, by omega, by simp; omega, by simp [Rq.nums, Rq.more, numsT]⟩
    · obtain ⟨i, rfl⟩ : ∃ i : Nat, id = i := ⟨id.toNat, by omega⟩
      obtain ⟨a, rfl⟩ : ∃ i : Nat, f = i := ⟨f.toNat, by omega⟩
      obtain ⟨d, rfl⟩ : ∃ i : Nat, s = i := ⟨s.toNat, by omega⟩
      exact ⟨i, 4, [a, d], rfl, rfl, by omega, by omega, by omega, by simp; omega, by simp [Rq.nums, Rq.more, numsT]⟩
    · obtain ⟨i, rfl⟩ : ∃ i : Nat, id = i := ⟨id.toNat, by omega⟩
      exact ⟨i, 5, [], rfl, rfl, by omega, by omega, by omega, by simp, by simp [Rq.nums, Rq.more, numsT]⟩
  · cases h
theorem rqOf_canon (id k : Nat) (l : List Nat) : (rqOf id k l).canon = rqOf id k l := by
  unfold rqOf
  split
  · subst k; rfl
  · split
    · rename_i h1 h2
      have h2' : (k : Int) = 3 ∨ (k : Int) = 4 := by omega
      have h1' : ¬ (k : Int) = 2 := by omega
      simp [Rq.canon, h1', h2']
    · rename_i h1 h2
      have h2' : ¬ ((k : Int) = 3 ∨ (k : Int) = 4) := by omega
      have h1' : ¬ (k : Int) = 2 := by omega
      simp [Rq.canon, h1', h2']
theorem moreN_le (k : Nat) : moreN k ≤ 3 := by
  unfold moreN
  split
  · omega
  · split <;> omega
theorem putRq_len {r : Rq} {t : List UInt8} (h : putRq r = some t) : 0 < t.length ∧ t.length ≤ 60 := by
  obtain ⟨id, k, l, _, hl, hk1, hk2, hid, hall, rfl⟩ := putRq_nat h
  have := numL_len30 id hid
  have := numL_len30 k (by omega)
  have := nums_len l hall
  have := moreN_le k
  simp only [List.length_cons, List.length_append]
  omega
theorem getRq_put {r : Rq} {t : List UInt8} (h : putRq r = some t) : getRq t = some r.canon := by
  have hlen := (putRq_len h).2
  obtain ⟨id, k, l, hc, hl, hk1, hk2, hid, hall, rfl⟩ := putRq_nat h
  rw [hc]
  unfold getRq
  have h1 := nu_put id 1073741824 (numL k ++ (l.map numL).flatten) hid (by decide)
  have h2 := nu_put k 5 ((l.map numL).flatten) hk2 (by decide)
  have h3 := nus_put l [] hall
  rw [List.append_nil] at h3
  rw [beS_put _ _ (by simp at hlen ⊢; omega)]
  simp only [h1.1, h1.2, h2.1, h2.2, ← hl, h3.1, h3.2]
  rw [if_pos (by simp; omega)]
theorem getRq_back {l : List UInt8} {r : Rq} (h : getRq l = some r) : putRq r = some l ∧ r.canon = r := by
  unfold getRq at h
  dsimp only at h
  split at h
  · rename_i hg
    injection h with h
    simp only [Bool.and_eq_true, decide_eq_true_eq, beq_iff_eq] at hg
    obtain ⟨⟨he2, he1⟩, hk⟩ := hg
    have hkl := nuN_le (nuS (beS l 81) 1073741824) 5
    obtain ⟨a1, a2, a3⟩ := nus_back _ _ he2
    obtain ⟨b1, b2, b3⟩ := nu_back _ _ a1
    obtain ⟨c1, c2, c3⟩ := nu_back _ _ b1
    obtain ⟨d1, d2⟩ := beS_back _ _ c1
    rw [he1, List.append_nil] at a2
    have hL : (nusL (moreN (nuN (nuS (beS l 81) 1073741824) 5)) (nuS (nuS (beS l 81) 1073741824) 5)).length = moreN (nuN (nuS (beS l 81) 1073741824) 5) := nusL_len _ _
    rw [a2] at b2
    rw [b2] at c2
    rw [c2] at d1
    generalize nuN (nuS (beS l 81) 1073741824) 5 = k at *
    generalize nusL (moreN k) (nuS (nuS (beS l 81) 1073741824) 5) = L at *
    generalize nuN (beS l 81) 1073741824 = id at *
    subst h
    refine ⟨?_, rqOf_canon _ _ _⟩
    rw [d1]
    have hid : goodZ (id : Int) = true := goodZ_iff.2 (by omega)
    rcases (by omega : k = 1 ∨ k = 2 ∨ k = 3 ∨ k = 4 ∨ k = 5) with rfl | rfl | rfl | rfl | rfl
    · obtain rfl : L = [] := List.eq_nil_of_length_eq_zero hL
      unfold putRq
      rw [if_pos (by simp [rqOf, Rq.nums, Rq.more, kindB, hid, goodZ]; omega)]
      simp [rqOf, Rq.nums, Rq.more, numsT]
    · obtain ⟨a, b, c, rfl⟩ : ∃ a b c, L = [a, b, c] := by
        match L, hL with
        | [a, b, c], _ => exact ⟨a, b, c, rfl⟩
      simp at a3
      unfold putRq
      rw [if_pos (by simp [rqOf, Rq.nums, Rq.more, kindB, hid, goodZ]; omega)]
      simp [rqOf, Rq.nums, Rq.more, numsT]
    · obtain ⟨a, b, rfl⟩ : ∃ a b, L = [a, b] := by
        match L, hL with
        | [a, b], _ => exact ⟨a, b, rfl⟩
      simp at a3
      unfold putRq
      rw [if_pos (by simp [rqOf, Rq.nums, Rq.more, kindB, hid, goodZ]; omega)]
      simp [rqOf, Rq.nums, Rq.more, numsT]
    · obtain ⟨a, b, rfl⟩ : ∃ a b, L = [a, b] := by
        match L, hL with
        | [a, b], _ => exact ⟨a, b, rfl⟩
      simp at a3
      unfold putRq
      rw [if_pos (by simp [rqOf, Rq.nums, Rq.more, kindB, hid, goodZ]; omega)]
      simp [rqOf, Rq.nums, Rq.more, numsT]
    · obtain rfl : L = [] := List.eq_nil_of_length_eq_zero hL
      unfold putRq
      rw [if_pos (by simp [rqOf, Rq.nums, Rq.more, kindB, hid, goodZ]; omega)]
      simp [rqOf, Rq.nums, Rq.more, numsT]
  · cases h
/- what the document's way says -/
def refNs : Nat → List UInt8 → List Nat
  | 0, _ => []
  | n + 1, l => if rdB l && decide (rdN l ≤ 1073741824) then rdN l :: refNs n (rdR l) else []
def refRq (l : List UInt8) : Rq :=
  let L := refNs 5 (l.drop 1)
  let k := L.getD 1 0
  if k = 2 then ⟨(L.getD 0 0 : Nat), k, (L.getD 2 0 : Nat), (L.getD 3 0 : Nat), (L.getD 4 0 : Nat)⟩ else if k = 3 ∨ k = 4 then ⟨(L.getD 0 0 : Nat), k, (L.getD 2 0 : Nat), 0, (L.getD 3 0 : Nat)⟩ else ⟨(L.getD 0 0 : Nat), k, 0, 0, 0⟩
theorem refNs_put : ∀ (l : List Nat) (m : Nat), (∀ n ∈ l, n ≤ 1073741824) → l.length ≤ m → refNs m ((l.map numL).flatten) = l
  | [], m, _, _ => by
    cases m with
    | zero => rfl
    | succ m => simp [refNs, rdB, rd]
  | n :: l, 0, _, h => by simp at h
  | n :: l, m + 1, h, hm => by
    have h0 := h n (by simp)
    obtain ⟨h1, h2, h3⟩ := rd_parts n ((l.map numL).flatten) (by omega)
    simp only [List.map_cons, List.flatten_cons, refNs, h1, h2, h3, Bool.true_and]
    rw [if_pos (by simpa using h0), refNs_put l m (fun k hk => h k (by simp [hk])) (by simp at hm; omega)]
theorem refNs_le : ∀ (n : Nat) (l : List UInt8), (refNs n l).length ≤ n ∧ ∀ m ∈ refNs n l, m ≤ 1073741824
  | 0, l => ⟨by simp [refNs], fun m hm => by simp [refNs] at hm⟩
  | n + 1, l => by
    have ih := refNs_le n (rdR l)
    unfold refNs
    split
    · rename_i h
      simp only [Bool.and_eq_true, decide_eq_true_eq] at h
      refine ⟨by simp; exact ih.1, fun m hm => ?_⟩
      rw [List.mem_cons] at hm
      rcases hm with rfl | hm
      · exact h.2
      · exact ih.2 m hm
    · exact ⟨by simp, fun m hm => by simp at hm⟩
theorem refRq_of {l : List UInt8} {r : Rq} (h : putRq r = some l) : refRq l = r.canon := by
  obtain ⟨id, k, L, hc, hl, hk1, hk2, hid, hall, rfl⟩ := putRq_nat h
  have hr := refNs_put (id :: k :: L) 5 (by
    intro n hn
    simp only [List.mem_cons] at hn
    rcases hn with rfl | rfl | hn
    · exact hid
    · omega
    · exact hall n hn) (by simp; have := moreN_le k; omega)
  simp only [List.map_cons, List.flatten_cons] at hr
  rw [hc]
  unfold refRq
  rw [List.drop_succ_cons, List.drop_zero, hr]
  unfold rqOf
  simp
theorem refRq_yes {l : List UInt8} {r : Rq} (h : getRq l = some r) : refRq l = r ∧ putRq r = some l := by
  obtain ⟨h1, h2⟩ := getRq_back h
  exact ⟨by rw [refRq_of h1, h2], h1⟩
end Go.Proofs.YtbpjlancjdbehaaDoor
/- are two signed heads the same? -/
namespace Go.Spec
open Go.RowKit
/-- what a signed head says -/
def Sg.k (d : Sg) : Int × List UInt8 × Int × List UInt8 × List (List UInt8) := (d.z, d.root, d.i, d.sig, d.path)
def Hd.k (h : Hd) : Int × List UInt8 := (h.z, h.r)
def Sg.hd (d : Sg) : Hd := ⟨d.z, d.root⟩
end Go.Spec
namespace Go.Proofs.YtbpjlancjdbehaaDoor
open Go.RowKit Go.Spec
theorem Tryd.guardHead : Tryd.prog.eqGuardType Tryd.prog.depth 90 = false := by kernel_rfl
theorem Tryd.guardHash10 : Tryd.prog.eqGuardType Tryd.prog.depth 29 = false := by kernel_rfl
set_option maxHeartbeats 4000000 in
theorem rsame10_any (d d' : Sg) (w : World) (h : d.In w) (h' : d'.In w) :
    Calls Tryd.prog 53 #[.agg (sgA d.z d.root d.i d.sig d.p), .agg (sgA d'.z d'.root d'.i d'.sig d'.p)] w fun e w' => e = .returned (.bool (decide (d.k = d'.k))) ∧ Below w.heap.size w w' := by
  obtain ⟨z, root, i, sig, path, a, cap⟩ := d
  obtain ⟨z', root', i', sig', path', a', cap'⟩ := d'
  have hr := h.r32; have hr' := h'.r32
  have Hp := hid h.at_; have Hp' := hid h'.at_
  have hpl := h.pl; have hpl' := h'.pl
  simp only [Sg.p] at hr hr' hpl hpl' ⊢
  clear h h'
  have hgd := Tryd.guardHead
  have Hs36 := hid (show (Tryd.prog.info? 90).map (·.size) = some (hdA z root).size by rw [hdA_size hr]; exact Tryd.sizeHead)
  have Hs36' := hid (show (Tryd.prog.info? 90).map (·.size) = some (hdA z' root').size by rw [hdA_size hr']; exact Tryd.sizeHead)
  generalize hA : sgA z root i sig (.slice a path.length cap) = A at *
  generalize hA' : sgA z' root' i' sig' (.slice a' path'.length cap') = A' at *
  have HB0 := hid (show Blk ((w.alloc (.cells A 92)).alloc (.cells A' 92)) w.heap.size (sgA z root i sig (.slice a path.length cap)) 92 by rw [hA]; exact (Blk.new _ _ _).alloc _)
  have HB1 := hid (show Blk ((w.alloc (.cells A 92)).alloc (.cells A' 92)) (w.heap.size + 1) (sgA z' root' i' sig' (.slice a' path'.length cap')) 92 by rw [hA']; exact Blk.new' _ _ _ (by simp))
  have HW := hid (((Below.refl _ w).alloc (Nat.le_refl _) (.cells A 92)).alloc (by simp) (.cells A' 92))
  have hAs : A.size = 36 := by rw [← hA]; exact sgA_size hr
  have hAs' : A'.size = 36 := by rw [← hA']; exact sgA_size hr'
  clear hA hA'
  by_cases hh : z = z' ∧ root = root'
  · obtain ⟨rfl, rfl⟩ := hh
    have hE : ∀ w, (Op.equalIn 10000 90 (.agg (hdA z root)) (.agg (hdA z root))).run Tryd.prog w = .ok true w := fun w => by rw [equalHead z z root root hr hr w]; simp
    have cA0 : ((w.alloc (.cells A 92)).alloc (.cells A' 92)).cell? ⟨w.heap.size, 33, none⟩ = some (.int .i64 i) := HB0.out.sg33 hr
    have cA1 : ((w.alloc (.cells A 92)).alloc (.cells A' 92)).cell? ⟨w.heap.size + 1, 33, none⟩ = some (.int .i64 i') := HB1.out.sg33 hr
    have cA2 : ((w.alloc (.cells A 92)).alloc (.cells A' 92)).cell? ⟨w.heap.size, 34, none⟩ = some (sv sig) := HB0.out.sg34 hr
    have cA3 : ((w.alloc (.cells A 92)).alloc (.cells A' 92)).cell? ⟨w.heap.size + 1, 34, none⟩ = some (sv sig') := HB1.out.sg34 hr
    have cA4 : ((w.alloc (.cells A 92)).alloc (.cells A' 92)).cell? ⟨w.heap.size, 35, none⟩ = some (.slice a path.length cap) := HB0.out.sg35 hr
    have cA5 : ((w.alloc (.cells A 92)).alloc (.cells A' 92)).cell? ⟨w.heap.size + 1, 35, none⟩ = some (.slice a' path'.length cap') := HB1.out.sg35 hr
    go_enter Tryd.func53, Tryd.ntmps53
    go_upto_region 1 with fail
    have hww : ((w.alloc (.cells A 92)).alloc (.cells A' 92)).heap.size = w.heap.size + 2 := by simp
    generalize hG0 : ((w.alloc (.cells A 92)).alloc (.cells A' 92)) = w2 at *
    clear hG0
    by_cases hh : i = i'
    rotate_left
    · have dq : (i != i') = true := by simpa using hh
      have Hf := hid (show decide (Sg.k ⟨z, root, i, sig, path, a, cap⟩ = Sg.k ⟨z, root, i', sig', path', a', cap'⟩) = false from decide_eq_false (fun h => by simp only [Sg.k, Prod.mk.injEq] at h; exact hh h.2.2.1))
      clear hh
      go_wp2_with (first
            | ((with_reducible show wpList _ _ _ ({ dst := _, op := Op.load 90 _, type := _, pos := _, after := _, guard := _ } :: _) _ _); refine wpList_load_cs rfl 90 _ rfl ⟨w.heap.size, 0, none⟩ rfl (hdA z root) _ HB0.out.sgHead Tryd.underlying90 rfl Hs36.out ?_)
            | ((with_reducible show wpList _ _ _ ({ dst := _, op := Op.load 90 _, type := _, pos := _, after := _, guard := _ } :: _) _ _); refine wpList_load_cs rfl 90 _ rfl ⟨w.heap.size + 1, 0, none⟩ rfl (hdA z root) _ HB1.out.sgHead Tryd.underlying90 rfl Hs36.out ?_))
      go_ret
      exact ⟨by rw [Hf.out]; rfl, HW.out⟩
    obtain rfl := hh
    have dq1 : (i != i) = false := by simp
    by_cases hh : sig = sig'
    rotate_left
    · have dq : (sig == sig') = false := by simpa using hh
      have Hf := hid (show decide (Sg.k ⟨z, root, i, sig, path, a, cap⟩ = Sg.k ⟨z, root, i, sig', path', a', cap'⟩) = false from decide_eq_false (fun h => by simp only [Sg.k, Prod.mk.injEq] at h; exact hh h.2.2.2.1))
      clear hh
      go_wp2_with (first
            | ((with_reducible show wpList _ _ _ ({ dst := _, op := Op.load 90 _, type := _, pos := _, after := _, guard := _ } :: _) _ _); refine wpList_load_cs rfl 90 _ rfl ⟨w.heap.size, 0, none⟩ rfl (hdA z root) _ HB0.out.sgHead Tryd.underlying90 rfl Hs36.out ?_)
            | ((with_reducible show wpList _ _ _ ({ dst := _, op := Op.load 90 _, type := _, pos := _, after := _, guard := _ } :: _) _ _); refine wpList_load_cs rfl 90 _ rfl ⟨w.heap.size + 1, 0, none⟩ rfl (hdA z root) _ HB1.out.sgHead Tryd.underlying90 rfl Hs36.out ?_))
      go_ret
      exact ⟨by rw [Hf.out]; rfl, HW.out⟩
    obtain rfl := hh
    have dq2 : (sig == sig) = true := by simp
    by_cases hh : path.length = path'.length
    rotate_left
    · have dq : (((path.length : Nat) : Int) != (path'.length : Int)) = true := by simp; omega
      have Hf := hid (show decide (Sg.k ⟨z, root, i, sig, path, a, cap⟩ = Sg.k ⟨z, root, i, sig, path', a', cap'⟩) = false from decide_eq_false (fun h => by simp only [Sg.k, Prod.mk.injEq] at h; exact hh (congrArg List.length h.2.2.2.2)))
      clear hh
      go_wp2_with (first
            | ((with_reducible show wpList _ _ _ ({ dst := _, op := Op.load 90 _, type := _, pos := _, after := _, guard := _ } :: _) _ _); refine wpList_load_cs rfl 90 _ rfl ⟨w.heap.size, 0, none⟩ rfl (hdA z root) _ HB0.out.sgHead Tryd.underlying90 rfl Hs36.out ?_)
            | ((with_reducible show wpList _ _ _ ({ dst := _, op := Op.load 90 _, type := _, pos := _, after := _, guard := _ } :: _) _ _); refine wpList_load_cs rfl 90 _ rfl ⟨w.heap.size + 1, 0, none⟩ rfl (hdA z root) _ HB1.out.sgHead Tryd.underlying90 rfl Hs36.out ?_))
      go_ret
      exact ⟨by rw [Hf.out]; rfl, HW.out⟩
    have dq : (((path.length : Nat) : Int) != (path'.length : Int)) = false := by simp; omega
    have HL := hid hh
    clear hh
    go_upto_region 4 with (first
          | ((with_reducible show wpList _ _ _ ({ dst := _, op := Op.load 90 _, type := _, pos := _, after := _, guard := _ } :: _) _ _); refine wpList_load_cs rfl 90 _ rfl ⟨w.heap.size, 0, none⟩ rfl (hdA z root) _ HB0.out.sgHead Tryd.underlying90 rfl Hs36.out ?_)
          | ((with_reducible show wpList _ _ _ ({ dst := _, op := Op.load 90 _, type := _, pos := _, after := _, guard := _ } :: _) _ _); refine wpList_load_cs rfl 90 _ rfl ⟨w.heap.size + 1, 0, none⟩ rfl (hdA z root) _ HB1.out.sgHead Tryd.underlying90 rfl Hs36.out ?_))
    have Hfin := hid (show decide (Sg.k ⟨z, root, i, sig, path, a, cap⟩ = Sg.k ⟨z, root, i, sig, path', a', cap'⟩) = decide (path = path') by simp [Sg.k])
    have Ha := hid (show SlAt w2 32 (.slice a path.length cap) (hcs path) from Hp.out.below HW.out (Nat.le_refl _))
    have Hb := hid (show SlAt w2 32 (.slice a' path'.length cap') (hcs path') from Hp'.out.below HW.out (Nat.le_refl _))
    clear cA0 cA1 cA2 cA3 cA4 cA5 Hp Hp'
    clear dq1 dq2 hE
    go_loopw [5] (fun i wr => ∃ k : Nat, k ≤ path.length ∧ i = .int .i64 k ∧ path.take k = path'.take k ∧ Below w2.heap.size w2 wr) (fun i _ => path.length - (intOf i).toNat)
    case atStart => exact ⟨0, by omega, rfl, by simp, Below.refl _ _⟩
    case round =>
      obtain ⟨k, hk, rfl, htk, hbw⟩ := hrel
      have Htk := hid htk
      clear htk
      have c4 : wr.cell? ⟨w.heap.size, 35, none⟩ = some (.slice a path.length cap) := (HB0.out.later hbw).sg35 hr
      have c5 : wr.cell? ⟨w.heap.size + 1, 35, none⟩ = some (.slice a' path'.length cap') := (HB1.out.later hbw).sg35 hr
      by_cases hlt : k < path.length
      · have hlt2 : k < path'.length := by rw [← HL.out]; exact hlt
        have hk64 : (k : Int) < (path.length : Int) := by omega
        have hk65 : (k : Int) < (path'.length : Int) := by omega
        have Ha2 := Ha.out.below hbw (Nat.le_refl _)
        have Hb2 := Hb.out.below hbw (Nat.le_refl _)
        obtain ⟨b1, o1, rfl, hbl1, hcl1, hcell1⟩ := Ha2.at (i := k) (cs := path[k].map bcell) (by simp [hcs, hlt])
        obtain ⟨b2, o2, rfl, hbl2, hcl2, hcell2⟩ := Hb2.at (i := k) (cs := path'[k].map bcell) (by simp [hcs, hlt2])
        have hta := hid (show path.take (k + 1) = path.take k ++ [path[k]] from List.take_succ_eq_append_getElem hlt)
        have htb := hid (show path'.take (k + 1) = path'.take k ++ [path'[k]] from List.take_succ_eq_append_getElem hlt2)
        have hne := hid (show path[k] ≠ path'[k] → path ≠ path' from fun h h2 => h (by subst h2; rfl))
        generalize path[k] = x at *
        generalize path'[k] = y at *
        have hx : x.length = 32 := by simpa using hcl1
        have hy : y.length = 32 := by simpa using hcl2
        have Hsx := hid (show (Tryd.prog.info? 29).map (·.size) = some x.length by rw [hx]; exact Tryd.sizeHash)
        have Hsy := hid (show (Tryd.prog.info? 29).map (·.size) = some y.length by rw [hy]; exact Tryd.sizeHash)
        have hs5 := Tryd.sizeU8
        have hge := Tryd.guardHash10
        have Hc1 := hid hcell1; have Hc2 := hid hcell2
        have Hb0 := hid (HB0.out.later hbw); have Hb1 := hid (HB1.out.later hbw)
        clear hcell1 hcell2 hcl1 hcl2 Ha2 Hb2
        by_cases hxy : x = y
        · have hq : (x == y) = true := by simpa using hxy
          have Hxy := hid hxy
          clear hxy
          go_wp2_with fail
          refine wp_region_later (by kernel_rfl) (by kernel_rfl) ?_
          repeat (first
            | (refine wpQuiet_load_one rfl 22 _ rfl ⟨w.heap.size, 35, none⟩ rfl (.slice (some ⟨b1, o1, none⟩) path.length cap) _ (by rintro _ ⟨q, rfl⟩; exact (Hb0.out.later (lat_below q)).sg35 hr) Tryd.underlying22 rfl ?_; simp only [Act.put, List.setIfInBounds_toArray, List.set_cons_succ, List.set_cons_zero])
            | (refine wpQuiet_load_one rfl 22 _ rfl ⟨w.heap.size + 1, 35, none⟩ rfl (.slice (some ⟨b2, o2, none⟩) path'.length cap') _ (by rintro _ ⟨q, rfl⟩; exact (Hb1.out.later (lat_below q)).sg35 hr) Tryd.underlying22 rfl ?_; simp only [Act.put, List.setIfInBounds_toArray, List.set_cons_succ, List.set_cons_zero])
            | (refine wpQuiet_load_hcG rfl 29 _ rfl ⟨b1, o1 + k * 32, none⟩ rfl x _ (by rintro _ ⟨q, rfl⟩; exact lat_cells q hbl1 Hc1.out) Tryd.underlying29 rfl Hsx.out ?_; simp only [Act.put, List.setIfInBounds_toArray, List.set_cons_succ, List.set_cons_zero])
            | (refine wpQuiet_load_hcG rfl 29 _ rfl ⟨b2, o2 + k * 32, none⟩ rfl y _ (by rintro _ ⟨q, rfl⟩; exact lat_cells q hbl2 Hc2.out) Tryd.underlying29 rfl Hsy.out ?_; simp only [Act.put, List.setIfInBounds_toArray, List.set_cons_succ, List.set_cons_zero])
            | go_big_quiet_step (fail))
          refine wpQuiet_nil ?_
          rintro _ ⟨q3, rfl⟩
          have hb3 := lat_below q3
          generalize lat q3 = w3 at *
          go_wp2
          go_roundw
          case rel => exact ⟨k + 1, by omega, by go_num, by rw [hta.out, htb.out, Htk.out, Hxy.out], bth hbw hb3⟩
          case measure => simp [intOf]; omega
        · have hq : (x == y) = false := by simpa using hxy
          have Hf := hid (show decide (path = path') = false from decide_eq_false (hne.out hxy))
          clear hxy
          go_wp2_with fail
          refine wp_region_later (by kernel_rfl) (by kernel_rfl) ?_
          repeat (first
            | (refine wpQuiet_load_one rfl 22 _ rfl ⟨w.heap.size, 35, none⟩ rfl (.slice (some ⟨b1, o1, none⟩) path.length cap) _ (by rintro _ ⟨q, rfl⟩; exact (Hb0.out.later (lat_below q)).sg35 hr) Tryd.underlying22 rfl ?_; simp only [Act.put, List.setIfInBounds_toArray, List.set_cons_succ, List.set_cons_zero])
            | (refine wpQuiet_load_one rfl 22 _ rfl ⟨w.heap.size + 1, 35, none⟩ rfl (.slice (some ⟨b2, o2, none⟩) path'.length cap') _ (by rintro _ ⟨q, rfl⟩; exact (Hb1.out.later (lat_below q)).sg35 hr) Tryd.underlying22 rfl ?_; simp only [Act.put, List.setIfInBounds_toArray, List.set_cons_succ, List.set_cons_zero])
            | (refine wpQuiet_load_hcG rfl 29 _ rfl ⟨b1, o1 + k * 32, none⟩ rfl x _ (by rintro _ ⟨q, rfl⟩; exact lat_cells q hbl1 Hc1.out) Tryd.underlying29 rfl Hsx.out ?_; simp only [Act.put, List.setIfInBounds_toArray, List.set_cons_succ, List.set_cons_zero])
            | (refine wpQuiet_load_hcG rfl 29 _ rfl ⟨b2, o2 + k * 32, none⟩ rfl y _ (by rintro _ ⟨q, rfl⟩; exact lat_cells q hbl2 Hc2.out) Tryd.underlying29 rfl Hsy.out ?_; simp only [Act.put, List.setIfInBounds_toArray, List.set_cons_succ, List.set_cons_zero])
            | go_big_quiet_step (fail))
          refine wpQuiet_nil ?_
          rintro _ ⟨q3, rfl⟩
          have hb3 := lat_below q3
          generalize lat q3 = w3 at *
          go_wp2
          go_ret
          exact ⟨by rw [Hfin.out, Hf.out]; rfl, bth HW.out (bth hbw hb3)⟩
      · have hke : k = path.length := by omega
        subst hke
        have Hf := hid (show decide (path = path') = true from decide_eq_true (by
          have := Htk.out
          rw [List.take_length, HL.out, List.take_length] at this
          exact this))
        go_wp2
        go_ret
        exact ⟨by rw [Hfin.out, Hf.out]; rfl, bth HW.out hbw⟩
  · have d1 : (decide (z = z') && root == root') = false := by
      rw [Bool.eq_false_iff]; simp; exact fun h1 h2 => hh ⟨h1, h2⟩
    have hE : ∀ w, (Op.equalIn 10000 90 (.agg (hdA z root)) (.agg (hdA z' root'))).run Tryd.prog w = .ok false w := fun w => by rw [equalHead z z' root root' hr hr' w, d1]
    clear d1
    have Hf := hid (show decide (Sg.k ⟨z, root, i, sig, path, a, cap⟩ = Sg.k ⟨z', root', i', sig', path', a', cap'⟩) = false from decide_eq_false (fun h => hh (by simp only [Sg.k, Prod.mk.injEq] at h; exact ⟨h.1, h.2.1⟩)))
    clear hh
    go_enter Tryd.func53, Tryd.ntmps53
    go_wp2_with (first
      | ((with_reducible show wpList _ _ _ ({ dst := _, op := Op.load 90 _, type := _, pos := _, after := _, guard := _ } :: _) _ _); refine wpList_load_cs rfl 90 _ rfl ⟨w.heap.size, 0, none⟩ rfl (hdA z root) _ HB0.out.sgHead Tryd.underlying90 rfl Hs36.out ?_)
      | ((with_reducible show wpList _ _ _ ({ dst := _, op := Op.load 90 _, type := _, pos := _, after := _, guard := _ } :: _) _ _); refine wpList_load_cs rfl 90 _ rfl ⟨w.heap.size + 1, 0, none⟩ rfl (hdA z' root') _ HB1.out.sgHead Tryd.underlying90 rfl Hs36'.out ?_))
    go_ret
    exact ⟨by rw [Hf.out]; rfl, HW.out⟩
end Go.Proofs.YtbpjlancjdbehaaDoor
/- slices.Index, Contains of heads; Clone of hashes -/
namespace Go.Proofs.YtbpjlancjdbehaaDoor
open Go.RowKit Go.Spec
end Go.Proofs.YtbpjlancjdbehaaDoor
/- Rough heads -/
namespace Go.Spec
open Go.RowKit
/-- a rough head's cells -/
def rgA (z : Int) (root : List UInt8) (i : Int) (sig : List UInt8) (m : Int) (p : Value) : Array Value := (.int .i64 z :: (root.map bcell ++ [.int .i64 i, sv sig, .int .i8 m, p])).toArray
variable {P : Program} {w : World} {z i m : Int} {root sig : List UInt8} {p : Value}
@[go_sem] theorem rgA_size (h : root.length = 32) : (rgA z root i sig m p).size = 37 := by simp [rgA, h]
@[go_sem] theorem rgA_at33 (h : root.length = 32) (k : 33 < (rgA z root i sig m p).size) : (rgA z root i sig m p)[33] = .int .i64 i := by simp [rgA, h]
@[go_sem] theorem rgA_at34 (h : root.length = 32) (k : 34 < (rgA z root i sig m p).size) : (rgA z root i sig m p)[34] = sv sig := by simp [rgA, h]
@[go_sem] theorem rgA_at35 (h : root.length = 32) (k : 35 < (rgA z root i sig m p).size) : (rgA z root i sig m p)[35] = .int .i8 m := by simp [rgA, h]
@[go_sem] theorem rgA_at36 (h : root.length = 32) (k : 36 < (rgA z root i sig m p).size) : (rgA z root i sig m p)[36] = p := by simp [rgA, h]
end Go.Spec
namespace Go.Spec
open Go.RowKit
end Go.Spec
namespace Go.Proofs.YtbpjlancjdbehaaDoor
open Go.RowKit Go.Spec
end Go.Proofs.YtbpjlancjdbehaaDoor
/- the law's Signed: rough heads made -/
namespace Go.Spec
open Go.RowKit
/-- a rough head -/
structure Rg where
  z : Int
  root : List UInt8
  i : Int
  sig : List UInt8
  m : Int
  path : List (List UInt8)
  a : Option Addr
  cap : Nat
def Rg.L (d : Rg) : List Value := (rgA d.z d.root d.i d.sig d.m (.slice d.a d.path.length d.cap)).toList
structure Rg.In (w : World) (d : Rg) : Prop where
  r32 : d.root.length = 32
  at_ : SlAt w 32 (.slice d.a d.path.length d.cap) (hcs d.path)
  m1 : -128 ≤ d.m
  m2 : d.m ≤ 127
structure RgsAt (w : World) (v : Value) (rs : List Rg) : Prop where
  at_ : SlAt w 37 v (rs.map Rg.L)
  ok : ∀ d ∈ rs, d.In w
theorem Rg.In.below {w w' : World} {d : Rg} (h : d.In w) (hb : Below w.heap.size w w') : d.In w' := ⟨h.r32, h.at_.below hb (Nat.le_refl _), h.m1, h.m2⟩
theorem RgsAt.below {w w' : World} {v : Value} {ds : List Rg} (h : RgsAt w v ds) (hb : Below w.heap.size w w') : RgsAt w' v ds := ⟨h.at_.below hb (Nat.le_refl _), fun d hd => (h.ok d hd).below hb⟩
theorem RgsAt.form {w : World} {v : Value} {ds : List Rg} (h : RgsAt w v ds) : ∃ a cap, v = .slice a ds.length cap ∧ ds.length ≤ cap := by
  have := h.at_.form
  rwa [List.length_map] at this
theorem RgsAt.get {w : World} {a : Option Addr} {n cap : Nat} {ds : List Rg} (h : RgsAt w (.slice a n cap) ds) {i : Nat} (hi : i < ds.length) :
    ∃ b o, a = some ⟨b, o, none⟩ ∧ b < w.heap.size ∧ (∀ j u, (rgA ds[i].z ds[i].root ds[i].i ds[i].sig ds[i].m (.slice ds[i].a ds[i].path.length ds[i].cap)).toList[j]? = some u → w.cell? ((⟨b, o + i * 37, none⟩ : Addr).add j) = some u) := by
  obtain ⟨b, o, ha, hb, _, hc⟩ := h.at_.at (i := i) (cs := ds[i].L) (by simp [hi])
  exact ⟨b, o, ha, hb, hc⟩
end Go.Spec
namespace Go.Proofs.YtbpjlancjdbehaaDoor
open Go.RowKit Go.Spec
end Go.Proofs.YtbpjlancjdbehaaDoor
/- slices.Clone of hashes -/
namespace Go.Spec
open Go.RowKit
theorem flatten_lenG {size : Nat} : ∀ {css : List (List Value)}, (∀ x ∈ css, x.length = size) → css.flatten.length = css.length * size
  | [], _ => by simp
  | x :: xs, h => by
    have hx : x.length = size := h x List.mem_cons_self
    rw [List.flatten_cons, List.length_append, flatten_lenG (fun y hy => h y (List.mem_cons_of_mem _ hy)), List.length_cons, Nat.add_mul, Nat.one_mul, hx]; omega
theorem SlAt.sizes {w : World} {size : Nat} {v : Value} {css : List (List Value)} (h : SlAt w size v css) : ∀ x ∈ css, x.length = size := by
  obtain ⟨a, cap, hv, hc, hs, _⟩ := h
  exact hs
theorem SlAt.flat {w : World} {size n cap : Nat} {ad : Addr} {css : List (List Value)} (h : SlAt w size (.slice (some ad) n cap) css) : ∀ j u, css.flatten[j]? = some u → w.cell? (ad.add j) = some u := by
  intro j u hj
  have hs := h.sizes
  have hlt : j < css.length * size := by
    have := (List.getElem?_eq_some_iff.1 hj).1
    rwa [flatten_lenG hs] at this
  have h0 : 0 < size := by
    rcases Nat.eq_zero_or_pos size with h | h
    · rw [h, Nat.mul_zero] at hlt; omega
    · exact h
  have hi : j / size < css.length := (Nat.div_lt_iff_lt_mul h0).2 hlt
  have hr : j % size < size := Nat.mod_lt _ h0
  have hje : j / size * size + j % size = j := by rw [Nat.mul_comm]; exact Nat.div_add_mod j size
  have hg := flat_getG size css hs (j / size) hi (j % size) hr
  rw [hje, hj] at hg
  obtain ⟨b, o, ha, hb, _, hc⟩ := h.at (i := j / size) (cs := css[j / size]) (List.getElem?_eq_getElem hi)
  injection ha with ha
  subst ha
  have := hc (j % size) u hg.symm
  rw [Addr.add_lit] at this ⊢
  rw [show o + j = o + j / size * size + j % size by rw [← hje]; simp only [hje]; omega]
  exact this
theorem Sg.In.lt {w : World} {d : Sg} (h : d.In w) {ad : Addr} (ha : d.a = some ad) (hp : d.path ≠ []) : ad.block < w.heap.size := by
  have hs := h.at_
  unfold Sg.p at hs
  rw [ha] at hs
  have hl : 0 < d.path.length := List.length_pos_iff.2 hp
  obtain ⟨b, o, ha', hb, _⟩ := hs.at (i := 0) (cs := (d.path[0]).map bcell) (by simp [hcs, hl])
  injection ha' with ha'
  subst ha'
  exact hb
theorem Sg.In.grown {w w' : World} {d : Sg} {row : Option Nat} (h : d.In w) (hg : w.grownBy w' row) (hap : ∀ ad, d.a = some ad → d.path ≠ [] → row ≠ some ad.block) : d.In w' := by
  refine ⟨h.r32, ?_, h.sl, h.pl⟩
  have hlt := @Sg.In.lt w d h
  obtain ⟨a, cap, hv, hc, hs, hr⟩ := h.at_
  refine ⟨a, cap, hv, hc, hs, fun i cs hi => ?_⟩
  obtain ⟨b, o, ha, hb, hcell⟩ := hr i cs hi
  have hp : d.path ≠ [] := by
    intro hp
    rw [hp] at hi
    simp [hcs] at hi
  have hda : d.a = some ⟨b, o, none⟩ := by
    have : d.p = .slice (some ⟨b, o, none⟩) (hcs d.path).length cap := by rw [hv, ha]
    unfold Sg.p at this
    injection this
  have hne := hap _ hda hp
  refine ⟨b, o, ha, Nat.lt_of_lt_of_le hb hg.size, fun j u hj => ?_⟩
  have hblk := hg.block b hb (fun h => hne h.symm)
  rw [← hcell j u hj]
  unfold World.cell?
  rw [hblk]
theorem hcs_flat (hs : List (List UInt8)) : (hcs hs).flatten = hflat hs := by
  unfold hcs hflat
  rw [List.map_flatten]
end Go.Spec
namespace Go.Proofs.YtbpjlancjdbehaaDoor
open Go.RowKit Go.Spec
end Go.Proofs.YtbpjlancjdbehaaDoor
/- gossip.Missing -/
namespace Go.Spec
open Go.RowKit
variable {P : Program} {w : World}
end Go.Spec
namespace Go.Proofs.YtbpjlancjdbehaaDoor
open Go.RowKit Go.Spec
end Go.Proofs.YtbpjlancjdbehaaDoor
/- heads.Get: a signed head out of bytes -/
namespace Go.Spec
open Go.RowKit
variable {P : Program}
/-- a struct, built, whatever the world -/
theorem YieldsW.buildP {C : World → Prop} {ops : Array Oper} {o : Oper} {a : Act} (hw : Region.wanted o (yielded ops a.tmps) = true) (t : TypeId) (parts : List (Nat × Operand)) (ho : o.op = .build t parts.toArray) (v : Value)
    (hr : ∀ w, (Instr.build t (parts.map fun (i, x) => (i, a.eval x)).toArray).run P w = .ok v w) : YieldsW P ops C o v a :=
  .inl ⟨hw, fun w _ => by
    unfold execOp
    simp only [ho, List.map_toArray, hr, Sem.run_bind, Sem.run_pure, Result.andThen_ok]⟩
end Go.Spec
namespace Go.Proofs.YtbpjlancjdbehaaDoor
open Go.RowKit Go.Spec
abbrev SgK := Int × List UInt8 × Int × List UInt8 × List (List UInt8)
/-- a signed head's parts, one behind the other -/
structure SgP where
  n : Nat
  a : Bool
  T : List UInt8
  b : Bool
  i : Nat
  c : Bool
  g : List UInt8
  d : Bool
  p : List (List UInt8)
  e : Bool
  r : List UInt8
def SgP.ok (x : SgP) : Bool := x.a && x.b && x.c && x.d && x.e
def SgP.k (x : SgP) : SgK := ((x.n : Int), x.T, (x.i : Int), x.g, x.p)
end Go.Proofs.YtbpjlancjdbehaaDoor
/- Signed heads out of bytes: plain laws -/
namespace Go.Proofs.YtbpjlancjdbehaaDoor
open Go.RowKit Go.Spec
end Go.Proofs.YtbpjlancjdbehaaDoor
/- gossip.Put, and the document's -/
namespace Go.Proofs.YtbpjlancjdbehaaDoor
open Go.RowKit Go.Spec
def sgT (d : Sg) : List UInt8 := numL d.bytes.length ++ d.bytes
theorem sgT_len (d : Sg) (hv : d.valid = true) (hr : d.root.length = 32) (h32 : ∀ x ∈ d.path, x.length = 32) : (sgT d).length ≤ 17010 := by
  have h1 := bytes_len d hv hr h32
  have h2 := numL_len d.bytes.length (by omega)
  unfold sgT
  rw [List.length_append]; omega
theorem sgTs_len {w : World} : ∀ (ds : List Sg), (∀ d ∈ ds, d.In w) → ds.all Sg.valid = true → ((ds.map sgT).flatten).length ≤ 17010 * ds.length
  | [], _, _ => by simp
  | d :: ds, h, hv => by
    simp only [List.all_cons, Bool.and_eq_true] at hv
    have ih := sgTs_len ds (fun x hx => h x (List.mem_cons_of_mem _ hx)) hv.2
    have hd := h d List.mem_cons_self
    have := sgT_len d hv.1 hd.r32 hd.at_.len32
    simp only [List.map_cons, List.flatten_cons, List.length_append, List.length_cons]
    omega
end Go.Proofs.YtbpjlancjdbehaaDoor
/- gossip.Get -/
namespace Go.Proofs.YtbpjlancjdbehaaDoor
open Go.RowKit Go.Spec
end Go.Proofs.YtbpjlancjdbehaaDoor
/- Signed heads' bytes: plain laws -/
namespace Go.Proofs.YtbpjlancjdbehaaDoor
open Go.RowKit Go.Spec
def ofK (k : SgK) : Sg := ⟨k.1, k.2.1, k.2.2.1, k.2.2.2.1, k.2.2.2.2, none, 0⟩
end Go.Proofs.YtbpjlancjdbehaaDoor
/- gossip.GetKnown -/
namespace Go.Proofs.YtbpjlancjdbehaaDoor
open Go.RowKit Go.Spec
end Go.Proofs.YtbpjlancjdbehaaDoor
/- What is put is got; of what is cut off, or has a byte behind it, nothing: plain laws -/
namespace Go.Proofs.YtbpjlancjdbehaaDoor
open Go.RowKit Go.Spec
end Go.Proofs.YtbpjlancjdbehaaDoor
/- Replies as bytes: plain laws -/
namespace Go.Proofs.YtbpjlancjdbehaaDoor
open Go.RowKit Go.Spec
/-- a reply, wherever it lies -/
structure RpK where
  id : Int
  kind : Int
  code : Int
  heads : List SgK
  entries : List (List UInt8)
  proof : List (List UInt8)
def sgsT (ks : List SgK) : List UInt8 := ((ks.map ofK).map sgT).flatten
def textT (l : List UInt8) : List UInt8 := numL l.length ++ l
def headsB (ks : List SgK) (n : Nat) : Bool := (ks.map ofK).all Sg.valid && decide (ks.length = n)
def entriesB (es ps : List (List UInt8)) : Bool := es.all (fun t => decide (t.length ≤ 200)) && decide (es.length ≤ 16) && decide (ps.length ≤ 64)
def entriesT (es : List (List UInt8)) : List UInt8 := numL es.length ++ (es.map textT).flatten
def bodyRp (x : RpK) : Option (List UInt8) :=
  if x.kind = 1 then (if 1 ≤ x.code ∧ x.code ≤ 255 then some (numL x.code.toNat) else none)
  else if x.kind = 2 then (if headsB x.heads 1 then some (sgsT x.heads) else none)
  else if x.kind = 3 then (if entriesB x.entries x.proof then some (entriesT x.entries ++ hashesL x.proof) else none)
  else if x.kind = 4 then (if x.proof.length ≤ 64 then some (hashesL x.proof) else none)
  else if x.kind = 5 then (if headsB x.heads 2 then some (sgsT x.heads) else none)
  else none
def putRp (x : RpK) : Option (List UInt8) := if goodZ x.id then (bodyRp x).map (fun b => 82 :: (numL x.id.toNat ++ (numL x.kind.toNat ++ b))) else none
/-- what a kind does not have is none -/
def RpK.canon (x : RpK) : RpK :=
  if x.kind = 1 then ⟨x.id, x.kind, x.code, [], [], []⟩ else if x.kind = 2 ∨ x.kind = 5 then ⟨x.id, x.kind, 0, x.heads, [], []⟩
  else if x.kind = 3 then ⟨x.id, x.kind, 0, [], x.entries, x.proof⟩ else if x.kind = 4 then ⟨x.id, x.kind, 0, [], [], x.proof⟩ else ⟨x.id, x.kind, 0, [], [], []⟩
theorem flat_len32 : ∀ {hs : List (List UInt8)}, (∀ x ∈ hs, x.length = 32) → hs.flatten.length = hs.length * 32
  | [], _ => rfl
  | h :: hs, k => by
    rw [List.flatten_cons, List.length_append, flat_len32 (fun x hx => k x (by simp [hx])), k h (by simp), List.length_cons]
    omega
theorem hashesL_len (hs : List (List UInt8)) (h : ∀ x ∈ hs, x.length = 32) : (hashesL hs).length ≤ 2058 := by
  unfold hashesL
  split
  · simp
  · have := numL_len hs.length (by omega)
    have : hs.flatten.length = hs.length * 32 := flat_len32 h
    simp only [List.length_append]
    omega
theorem texts_len : ∀ (es : List (List UInt8)), (∀ t ∈ es, t.length ≤ 200) → ((es.map textT).flatten).length ≤ 210 * es.length
  | [], _ => by simp
  | t :: es, h => by
    have h1 := h t (by simp)
    have h2 := numL_len t.length (by omega)
    have h3 := texts_len es (fun m hm => h m (by simp [hm]))
    simp only [List.map_cons, List.flatten_cons, List.length_append, List.length_cons, textT]
    omega
end Go.Proofs.YtbpjlancjdbehaaDoor
/- slices of strings -/
namespace Go.Proofs.YtbpjlancjdbehaaDoor
open Go.RowKit Go.Spec
def scells (ls : List (List UInt8)) : List (List Value) := ls.map fun l => [sv l]
theorem scells_length (ls : List (List UInt8)) : (scells ls).length = ls.length := by simp [scells]
/-- a slice of strings, read as a list -/
def StrsAt (w : World) (v : Value) (ls : List (List UInt8)) : Prop := SlAt w 1 v (scells ls)
theorem StrsAt.below {w w' : World} {v : Value} {ls : List (List UInt8)} (h : StrsAt w v ls) (hb : Below w.heap.size w w') : StrsAt w' v ls := SlAt.below h hb (Nat.le_refl _)
theorem StrsAt.form {w : World} {v : Value} {ls : List (List UInt8)} (h : StrsAt w v ls) : ∃ a cap, v = .slice a ls.length cap ∧ ls.length ≤ cap := by
  have := SlAt.form h
  rwa [scells_length] at this
theorem StrsAt.at {w : World} {a : Option Addr} {n cap : Nat} {ls : List (List UInt8)} (h : StrsAt w (.slice a n cap) ls) {i : Nat} (hi : i < ls.length) :
    ∃ b o, a = some ⟨b, o, none⟩ ∧ b < w.heap.size ∧ w.cell? ⟨b, o + i, none⟩ = some (sv ls[i]) := by
  obtain ⟨b, o, e, h1, h2, h3⟩ := SlAt.at h (i := i) (cs := [sv ls[i]]) (by simp [scells, hi])
  have := h3 0 (sv ls[i]) rfl
  rw [Addr.add_lit] at this
  exact ⟨b, o, e, h1, by rw [Nat.mul_one, Nat.add_zero] at this; exact this⟩
theorem StrsAt.of_owns {w : World} {base e : Nat} {v : Value} {ls : List (List UInt8)} (h : w.ownsRow base e 1 v ls.length (ls.map sv)) : StrsAt w v ls := by
  rcases h.2 with ⟨rfl, h0⟩ | ⟨g, cap, cur, rfl, hb, hg, hnc, hcm, _⟩
  · obtain rfl : ls = [] := List.eq_nil_of_length_eq_zero h0
    exact ⟨none, 0, rfl, Nat.le_refl _, fun _ h => by simp [scells] at h, fun i cs h => by simp [scells] at h⟩
  · refine ⟨_, cap, by rw [scells_length], by rw [scells_length]; exact hnc, ?_, fun i cs hi => ⟨g, 0, rfl, (Array.getElem?_eq_some_iff.1 hg).1, fun j u hj => ?_⟩⟩
    · intro cs hcs
      simp only [scells, List.mem_map] at hcs
      obtain ⟨l, _, rfl⟩ := hcs
      rfl
    · have hi' : i < ls.length := by
        have := (List.getElem?_eq_some_iff.1 hi).1
        rwa [scells_length] at this
      simp only [scells, List.getElem?_map, List.getElem?_eq_getElem hi', Option.map_some] at hi
      injection hi with hi
      subst hi
      rcases j with _ | j
      · simp at hj
        subst hj
        have hx := h.cells (g := g) rfl i (sv ls[i]) (by simp [hi'])
        rw [Addr.add_lit] at hx
        rw [show 0 + i * 1 + 0 = 0 + i by omega]
        exact hx
      · simp at hj
theorem Blk.strs {w : World} {g t : Nat} {ls : List (List UInt8)} (h : Blk w g (ls.map sv).toArray t) (hn : ls.length ≤ maxLen) : StrsAt w (.slice (some ⟨g, 0, none⟩) ls.length ls.length) ls := by
  have := Blk.owns h (base := 0) (size := 1) (n := ls.length) (Nat.zero_le _) hn (by simp)
  exact StrsAt.of_owns (by simpa using this)
end Go.Proofs.YtbpjlancjdbehaaDoor
/- the document's Missing -/
namespace Go.Spec
open Go.RowKit
end Go.Spec
namespace Go.Proofs.YtbpjlancjdbehaaDoor
open Go.RowKit Go.Spec
end Go.Proofs.YtbpjlancjdbehaaDoor
/- the chapter's examples -/
namespace Go.Spec
open Go.RowKit
end Go.Spec
namespace Go.Proofs.YtbpjlancjdbehaaDoor
open Go.RowKit Go.Spec
end Go.Proofs.YtbpjlancjdbehaaDoor
/- are two rows of signed heads, of heads the same? -/
namespace Go.Proofs.YtbpjlancjdbehaaDoor
open Go.RowKit Go.Spec
end Go.Proofs.YtbpjlancjdbehaaDoor
/- GossipMissing -/
namespace Go.Spec
open Go.RowKit
variable {P : Program} {w : World}
/-- append(T(nil), l...): a row of the call's own with the same elements -/
theorem wpList_cloneS {ops : Array Oper} {rest : List Oper} {o : Oper} {a : Act} {Q : Exit → Act → World → Prop} (hgd : o.guard = none) (s x : Operand) (t : TypeId)
    (ho : o.op = .call { callee := .builtin .append, args := #[s, x], argTypes := #[t, t] })
    (e : TypeId) (i : TypeInfo) (z : Value) (size bytes : Nat) (ht : P.underlying t = some (.slice e)) (hi : P.info? e = some i) (hz : i.zero = some z) (hsize : i.size = size) (hby : i.bytes = bytes) (hzs : z.cells.size = size) (hsz : 0 < size)
    (hs : a.eval s = .slice none 0 0) (ua : Option Addr) (n uc : Nat) (hx : a.eval x = .slice ua n uc) (css : List (List Value)) (hn : css.length = n) (hat : SlAt w size (.slice ua n uc) css) (hone : ∀ u ∈ css.flatten, u.oneCell' = true) (hl : n ≤ maxLen) (hb : n * bytes ≤ 140737488355328)
    (h : ∀ v' w', w'.ownsRow w.heap.size e size v' n css.flatten → Below w.heap.size w w' → wpList P ops Q rest (a.put o.dst v') w') : wpList P ops Q (o :: rest) a w := by
  have hfl : css.flatten.length = n * size := by rw [flatten_lenG hat.sizes, hn]
  by_cases h0 : 0 < n
  · obtain ⟨ad, rfl⟩ : ∃ ad, ua = some ad := by
      obtain ⟨b, o, ha, _⟩ := hat.at (i := 0) (cs := css[0]) (List.getElem?_eq_getElem (by omega))
      exact ⟨_, ha⟩
    refine wpList_app hgd s x t ho w.heap.size e i z size bytes ht hi hz hsize hby hzs hsz (.slice none 0 0) 0 [] hs (World.ownsRow_nil _ _ _ _) ad n uc css.flatten hx hfl hat.flat hone (by omega) (by rw [Nat.zero_add]; exact hb) (Nat.le_refl _) ?_
    intro v' w' h1 h2 h3
    rw [Nat.zero_add, List.nil_append] at h1
    exact h v' w' h1 ((Below.refl _ w).grown h2 (Nat.le_refl _) (fun q hq => by simp [Value.ownBlock] at hq))
  · obtain rfl : n = 0 := by omega
    have hp : css = [] := List.eq_nil_of_length_eq_zero hn
    subst hp
    refine wpList_plain hgd fun _ hK => ?_
    have hr : (Builtin.append_ #[t, t] o.type #[.slice none 0 0, .slice ua 0 uc]).run P w = .ok (.slice none 0 0) w := by
      cases ua <;> simp [Builtin.append_, run_underlying ht, sizeOf, typeInfo, hi, Builtin.lenOf, Builtin.firstCells, loadCells, loadCellsFrom]
    unfold Oper.wp execOp
    simp only [ho, resolve, invoke, builtin, Sem.run_bind, Sem.run_pure, Result.andThen_ok, List.map_toArray, List.map_cons, List.map_nil, hs, hx, hr]
    exact hK _ _ (h _ _ (World.ownsRow_nil _ _ _ _) (Below.refl _ _))
end Go.Spec
namespace Go.Proofs.YtbpjlancjdbehaaDoor
open Go.RowKit Go.Spec
end Go.Proofs.YtbpjlancjdbehaaDoor
