/- Heads and signed heads, as values: cells of structs that hold a hash. -/
import Derived.Test.YtjpnlnbpaecciaaQAnyOp
import Derived.Test.YtjpnlnbpaecciaaQBase
import Derived.Test.YtjpnlnbpaecciaaQRef03

set_option maxRecDepth 100000
namespace Go.Spec
open Go.RowKit
/-- a head's cells -/
def hdA (z : Int) (root : List UInt8) : Array Value := (.int .i64 z :: root.map bcell).toArray
/-- a signed head's cells -/
def sgA (z : Int) (root : List UInt8) (i : Int) (sig : List UInt8) (p : Value) : Array Value := (.int .i64 z :: (root.map bcell ++ [.int .i64 i, sv sig, p])).toArray
variable {P : Program} {w : World} {z i : Int} {root sig : List UInt8} {p : Value}
@[go_sem] theorem hdA_get0 : (hdA z root)[0]? = some (.int .i64 z) := by simp [hdA]
@[go_sem] theorem sgA_get0 : (sgA z root i sig p)[0]? = some (.int .i64 z) := by simp [sgA]
@[go_sem] theorem hdA_size (h : root.length = 32) : (hdA z root).size = 33 := by simp [hdA, h]
@[go_sem] theorem sgA_size (h : root.length = 32) : (sgA z root i sig p).size = 36 := by simp [sgA, h]
@[go_sem] theorem sgA_get33 (h : root.length = 32) : (sgA z root i sig p)[33]? = some (.int .i64 i) := by simp [sgA, h, List.getElem?_append]
@[go_sem] theorem sgA_get34 (h : root.length = 32) : (sgA z root i sig p)[34]? = some (sv sig) := by simp [sgA, h, List.getElem?_append]
@[go_sem] theorem sgA_get35 (h : root.length = 32) : (sgA z root i sig p)[35]? = some p := by simp [sgA, h, List.getElem?_append]
@[go_sem] theorem hdA_at0 (h : 0 < (hdA z root).size) : (hdA z root)[0] = .int .i64 z := by simp [hdA]
@[go_sem] theorem sgA_at0 (h : 0 < (sgA z root i sig p).size) : (sgA z root i sig p)[0] = .int .i64 z := by simp [sgA]
@[go_sem] theorem sgA_at33 (h : root.length = 32) (k : 33 < (sgA z root i sig p).size) : (sgA z root i sig p)[33] = .int .i64 i := by simp [sgA, h, List.getElem_append]
@[go_sem] theorem sgA_at34 (h : root.length = 32) (k : 34 < (sgA z root i sig p).size) : (sgA z root i sig p)[34] = sv sig := by simp [sgA, h, List.getElem_append]
@[go_sem] theorem sgA_at35 (h : root.length = 32) (k : 35 < (sgA z root i sig p).size) : (sgA z root i sig p)[35] = p := by simp [sgA, h, List.getElem_append]
theorem hdA_root (h : root.length = 32) (j : Nat) (hj : j < root.length) : (hdA z root)[1 + j]? = some (bcell root[j]) := by
  rw [Nat.add_comm]; simp [hdA, hj]
theorem sgA_root (h : root.length = 32) (j : Nat) (hj : j < root.length) : (sgA z root i sig p)[1 + j]? = some (bcell root[j]) := by
  rw [Nat.add_comm]; simp [sgA, List.getElem?_append, hj]
theorem _root_.Go.Spec.Blk.hd0 {g : Nat} {t : TypeId} (h : Blk w g (hdA z root) t) : w.cell? ⟨g, 0, none⟩ = some (.int .i64 z) := by rw [h.cell, hdA_get0]
theorem _root_.Go.Spec.Blk.sg0 {g : Nat} {t : TypeId} (h : Blk w g (sgA z root i sig p) t) : w.cell? ⟨g, 0, none⟩ = some (.int .i64 z) := by rw [h.cell, sgA_get0]
theorem _root_.Go.Spec.Blk.sg33 {g : Nat} {t : TypeId} (h : Blk w g (sgA z root i sig p) t) (hr : root.length = 32) : w.cell? ⟨g, 33, none⟩ = some (.int .i64 i) := by rw [h.cell, sgA_get33 hr]
theorem _root_.Go.Spec.Blk.sg34 {g : Nat} {t : TypeId} (h : Blk w g (sgA z root i sig p) t) (hr : root.length = 32) : w.cell? ⟨g, 34, none⟩ = some (sv sig) := by rw [h.cell, sgA_get34 hr]
theorem _root_.Go.Spec.Blk.sg35 {g : Nat} {t : TypeId} (h : Blk w g (sgA z root i sig p) t) (hr : root.length = 32) : w.cell? ⟨g, 35, none⟩ = some p := by rw [h.cell, sgA_get35 hr]
theorem _root_.Go.Spec.Blk.piece {w : World} {g : Nat} {cs : Array Value} {t : TypeId} (h : Blk w g cs t) (o : Nat) (l : List Value) (hl : ∀ j (hj : j < l.length), cs[o + j]? = some l[j]) : ∀ j u, l[j]? = some u → w.cell? ((⟨g, o, none⟩ : Addr).add j) = some u := by
  intro j u hu
  have hj : j < l.length := (List.getElem?_eq_some_iff.1 hu).1
  rw [Addr.add_lit, h.cell, hl j hj]
  rw [List.getElem?_eq_getElem hj] at hu
  exact hu
theorem _root_.Go.Spec.Blk.sgRoot {g : Nat} {t : TypeId} (h : Blk w g (sgA z root i sig p) t) (hr : root.length = 32) : ∀ j u, (root.map bcell)[j]? = some u → w.cell? ((⟨g, 1, none⟩ : Addr).add j) = some u :=
  h.piece 1 _ (fun j hj => by rw [sgA_root hr j (by simpa using hj)]; simp)
theorem _root_.Go.Spec.Blk.hdRoot {g : Nat} {t : TypeId} (h : Blk w g (hdA z root) t) (hr : root.length = 32) : ∀ j u, (root.map bcell)[j]? = some u → w.cell? ((⟨g, 1, none⟩ : Addr).add j) = some u :=
  h.piece 1 _ (fun j hj => by rw [hdA_root hr j (by simpa using hj)]; simp)
theorem _root_.Go.Spec.Blk.sgHead {g : Nat} {t : TypeId} (h : Blk w g (sgA z root i sig p) t) : ∀ j u, (hdA z root).toList[j]? = some u → w.cell? ((⟨g, 0, none⟩ : Addr).add j) = some u :=
  h.piece 0 _ (fun j hj => by
    rw [Nat.zero_add]
    simp only [hdA, sgA, List.length_cons, List.length_map] at hj ⊢
    simp only [List.getElem?_toArray]
    rw [← List.cons_append, List.getElem?_append_left (by simpa using hj), List.getElem?_eq_getElem])
theorem hdA_one : ∀ v ∈ (hdA z root).toList, v.oneCell' = true := by
  intro v hv
  simp only [hdA, List.mem_cons, List.mem_map] at hv
  rcases hv with rfl | ⟨b, _, rfl⟩ <;> rfl
theorem sgA_one (hp : p.oneCell' = true) : ∀ v ∈ (sgA z root i sig p).toList, v.oneCell' = true := by
  intro v hv
  simp only [sgA, List.mem_cons, List.mem_append, List.mem_map, List.not_mem_nil, or_false] at hv
  rcases hv with rfl | ⟨b, _, rfl⟩ | rfl | rfl | rfl
  · rfl
  · rfl
  · rfl
  · rfl
  · exact hp
end Go.Spec
namespace Go.Proofs.Ytjpnlnbpaecciaa
open Go.RowKit Go.Spec
/-- may a signed head be? -/
def validB (z i : Int) (sig : List UInt8) (n : Nat) : Bool := decide (0 ≤ z) && decide (z ≤ 4096) && (decide (0 ≤ i) && decide (i < 8) && decide (sig.length = 16384) && decide (n = 3))
set_option maxHeartbeats 2000000 in
theorem valid_any (z i : Int) (root sig : List UInt8) (a : Option Addr) (n cap : Nat) (w : World) (hr : root.length = 32) :
    Calls Try.prog 21 #[.agg (sgA z root i sig (.slice a n cap))] w fun e w' => e = .returned (.bool (validB z i sig n)) ∧ Below w.heap.size w w' := by
  rcases Decidable.em (0 ≤ z) with h1 | h1
  rotate_left
  · have d1 : decide (0 ≤ z) = false := by simpa using h1
    have Hf := hid (show validB z i sig n = false by simp [validB, h1])
    clear h1
    go_enter Try.func21, Try.ntmps21
    go_wp2
    go_ret
    exact ⟨by rw [Hf.out]; rfl, (Below.refl _ _).alloc (Nat.le_refl _) _⟩
  have d1 : decide (0 ≤ z) = true := by simpa using h1
  rcases Decidable.em (z ≤ 4096) with h2 | h2
  rotate_left
  · have d2 : decide (z ≤ 4096) = false := by simpa using h2
    have Hf := hid (show validB z i sig n = false by simp [validB, h2])
    clear h1 h2
    go_enter Try.func21, Try.ntmps21
    go_wp2
    go_ret
    exact ⟨by rw [Hf.out]; rfl, (Below.refl _ _).alloc (Nat.le_refl _) _⟩
  have d2 : decide (z ≤ 4096) = true := by simpa using h2
  rcases Decidable.em (0 ≤ i) with h3 | h3
  rotate_left
  · have d3 : decide (0 ≤ i) = false := by simpa using h3
    have Hf := hid (show validB z i sig n = false by simp [validB, h3])
    clear h1 h2 h3
    go_enter Try.func21, Try.ntmps21
    go_wp2
    go_ret
    exact ⟨by rw [Hf.out]; rfl, (Below.refl _ _).alloc (Nat.le_refl _) _⟩
  have d3 : decide (0 ≤ i) = true := by simpa using h3
  rcases Decidable.em (i < 8) with h4 | h4
  rotate_left
  · have d4 : decide (i < 8) = false := by simpa using h4
    have Hf := hid (show validB z i sig n = false by simp [validB, h4])
    clear h1 h2 h3 h4
    go_enter Try.func21, Try.ntmps21
    go_wp2
    go_ret
    exact ⟨by rw [Hf.out]; rfl, (Below.refl _ _).alloc (Nat.le_refl _) _⟩
  have d4 : decide (i < 8) = true := by simpa using h4
  by_cases h5 : sig.length = 16384
  · have d5 : ((sig.length : Int) == 16384) = true := by simp; omega
    by_cases h6 : n = 3
    · have Hf := hid (show validB z i sig n = true by simp [validB, h1, h2, h3, h4, h5, h6])
      have d6 : ((n : Int) == 3) = true := by simp; omega
      clear h1 h2 h3 h4 h5 h6
      go_enter Try.func21, Try.ntmps21
      go_wp2
      go_ret
      exact ⟨by rw [Hf.out]; rfl, (Below.refl _ _).alloc (Nat.le_refl _) _⟩
    · have Hf := hid (show validB z i sig n = false by simp [validB, h6])
      have d6 : ((n : Int) == 3) = false := by simp; omega
      clear h1 h2 h3 h4 h5 h6
      go_enter Try.func21, Try.ntmps21
      go_wp2
      go_ret
      exact ⟨by rw [Hf.out]; rfl, (Below.refl _ _).alloc (Nat.le_refl _) _⟩
  · have Hf := hid (show validB z i sig n = false by simp [validB, h5])
    have d5 : ((sig.length : Int) == 16384) = false := by simp; omega
    clear h1 h2 h3 h4 h5
    go_enter Try.func21, Try.ntmps21
    go_wp2
    go_ret
    exact ⟨by rw [Hf.out]; rfl, (Below.refl _ _).alloc (Nat.le_refl _) _⟩
set_option maxHeartbeats 2000000 in
theorem rvalid_any (z i : Int) (root sig : List UInt8) (a : Option Addr) (n cap : Nat) (w : World) (hr : root.length = 32) :
    Calls Try.prog 57 #[.agg (sgA z root i sig (.slice a n cap))] w fun e w' => e = .returned (.bool (validB z i sig n)) ∧ Below w.heap.size w w' := by
  rcases Decidable.em (0 ≤ z) with h1 | h1
  rotate_left
  · have d1 : decide (0 ≤ z) = false := by simpa using h1
    have Hf := hid (show validB z i sig n = false by simp [validB, h1])
    clear h1
    go_enter Try.func57, Try.ntmps57
    go_wp2
    go_ret
    exact ⟨by rw [Hf.out]; rfl, (Below.refl _ _).alloc (Nat.le_refl _) _⟩
  have d1 : decide (0 ≤ z) = true := by simpa using h1
  rcases Decidable.em (z ≤ 4096) with h2 | h2
  rotate_left
  · have d2 : decide (z ≤ 4096) = false := by simpa using h2
    have Hf := hid (show validB z i sig n = false by simp [validB, h2])
    clear h1 h2
    go_enter Try.func57, Try.ntmps57
    go_wp2
    go_ret
    exact ⟨by rw [Hf.out]; rfl, (Below.refl _ _).alloc (Nat.le_refl _) _⟩
  have d2 : decide (z ≤ 4096) = true := by simpa using h2
  rcases Decidable.em (0 ≤ i) with h3 | h3
  rotate_left
  · have d3 : decide (0 ≤ i) = false := by simpa using h3
    have Hf := hid (show validB z i sig n = false by simp [validB, h3])
    clear h1 h2 h3
    go_enter Try.func57, Try.ntmps57
    go_wp2
    go_ret
    exact ⟨by rw [Hf.out]; rfl, (Below.refl _ _).alloc (Nat.le_refl _) _⟩
  have d3 : decide (0 ≤ i) = true := by simpa using h3
  rcases Decidable.em (i ≤ 7) with h4 | h4
  rotate_left
  · have d4 : decide (i ≤ 7) = false := by simpa using h4
    have Hf := hid (show validB z i sig n = false by simp [validB]; omega)
    clear h1 h2 h3 h4
    go_enter Try.func57, Try.ntmps57
    go_wp2
    go_ret
    exact ⟨by rw [Hf.out]; rfl, (Below.refl _ _).alloc (Nat.le_refl _) _⟩
  have d4 : decide (i ≤ 7) = true := by simpa using h4
  by_cases h5 : sig.length = 16384
  · have d5 : ((sig.length : Int) == 16384) = true := by simp; omega
    by_cases h6 : n = 3
    · have Hf := hid (show validB z i sig n = true by simp [validB, h1, h2, h3, h5, h6]; omega)
      have d6 : ((n : Int) == 3) = true := by simp; omega
      clear h1 h2 h3 h4 h5 h6
      go_enter Try.func57, Try.ntmps57
      go_wp2
      go_ret
      exact ⟨by rw [Hf.out]; rfl, (Below.refl _ _).alloc (Nat.le_refl _) _⟩
    · have Hf := hid (show validB z i sig n = false by simp [validB, h6])
      have d6 : ((n : Int) == 3) = false := by simp; omega
      clear h1 h2 h3 h4 h5 h6
      go_enter Try.func57, Try.ntmps57
      go_wp2
      go_ret
      exact ⟨by rw [Hf.out]; rfl, (Below.refl _ _).alloc (Nat.le_refl _) _⟩
  · have Hf := hid (show validB z i sig n = false by simp [validB, h5])
    have d5 : ((sig.length : Int) == 16384) = false := by simp; omega
    clear h1 h2 h3 h4 h5
    go_enter Try.func57, Try.ntmps57
    go_wp2
    go_ret
    exact ⟨by rw [Hf.out]; rfl, (Below.refl _ _).alloc (Nat.le_refl _) _⟩
end Go.Proofs.Ytjpnlnbpaecciaa
/- Structs with a hash, built; heads compared; rows of such. -/
namespace Go.Spec
open Go.RowKit
theorem list32 (l : List UInt8) (h : l.length = 32) : ∃ f : Nat → UInt8, l = (List.range 32).map f := by
  refine ⟨fun i => l.getD i 0, ?_⟩
  apply List.ext_getElem
  · simp [h]
  · intro i h1 h2
    simp [List.getD_eq_getElem?_getD, List.getElem?_eq_getElem h1]
variable {P : Program}
/-- a whole struct, loaded in a quiet region -/
theorem wpQuiet_load_aggG {C : World → Prop} {Q : Act → Prop} {ops : Array Oper} {rest : List Oper} {o : Oper} {a : Act} (hw : Region.wanted o (yielded ops a.tmps) = true) (ty : TypeId) (x : Operand) (ho : o.op = .load ty x)
    (ad : Addr) (hx : a.eval x = .pointer (some ad)) (cs : Array Value) (d : TypeDesc) (hc : ∀ w', C w' → ∀ j v, cs.toList[j]? = some v → w'.cell? (ad.add j) = some v)
    (hu : P.underlying ty = some d) (hd : (match d with | .struct _ | .array _ _ => true | _ => false) = true) (hi : (P.info? ty).map (·.size) = some cs.size)
    (h : wpQuiet P ops C Q rest (a.put o.dst (.agg cs))) : wpQuiet P ops C Q (o :: rest) a :=
  wpQuiet_step fun K hK => by
    rw [if_pos hw]
    refine ⟨.agg cs, fun w' hw' => ?_, hK _ h⟩
    have hr := run_loadVar_agg (P := P) (w := w') ty ad cs.toList d (hc w' hw') hu hd (by simpa using hi)
    rw [Array.toArray_toList] at hr
    unfold Oper.quietAt execOp
    simp only [ho, hx, Instr.loadAt, Instr.sureAddr, Sem.run_bind, Sem.run_pure, Result.andThen_ok, hr]
    exact ⟨rfl, rfl⟩
/-- a whole struct out of any row -/
theorem wpList_load_cs {w : World} {ops : Array Oper} {rest : List Oper} {o : Oper} {a : Act} {Q : Exit → Act → World → Prop} (hgd : o.guard = none) (ty : TypeId) (x : Operand) (ho : o.op = .load ty x)
    (ad : Addr) (hx : a.eval x = .pointer (some ad)) (cs : Array Value) (d : TypeDesc) (hc : ∀ j v, cs.toList[j]? = some v → w.cell? (ad.add j) = some v)
    (hu : P.underlying ty = some d) (hd : (match d with | .struct _ | .array _ _ => true | _ => false) = true) (hi : (P.info? ty).map (·.size) = some cs.size)
    (h : wpList P ops Q rest (a.put o.dst (.agg cs)) w) : wpList P ops Q (o :: rest) a w :=
  wpList_load_agg hgd ty x ho ad hx cs.toList d hc hu hd (by simpa using hi) (by simpa using h)
/-- a struct, built in a quiet region -/
theorem wpQuiet_buildP {C : World → Prop} {Q : Act → Prop} {ops : Array Oper} {rest : List Oper} {o : Oper} {a : Act} (hw : Region.wanted o (yielded ops a.tmps) = true) (t : TypeId) (parts : List (Nat × Operand)) (ho : o.op = .build t parts.toArray) (v : Value)
    (hr : ∀ w, (Instr.build t (parts.map fun (i, x) => (i, a.eval x)).toArray).run P w = .ok v w) (h : wpQuiet P ops C Q rest (a.put o.dst v)) : wpQuiet P ops C Q (o :: rest) a :=
  wpQuiet_step fun K hK => by
    rw [if_pos hw]
    refine ⟨v, fun w' _ => ?_, hK _ h⟩
    unfold Oper.quietAt execOp
    simp only [ho, List.map_toArray, hr, Sem.run_bind, Sem.run_pure, Result.andThen_ok]
    exact ⟨rfl, rfl⟩
/-- .. in a list -/
theorem wpList_buildP {w : World} {ops : Array Oper} {rest : List Oper} {o : Oper} {a : Act} {Q : Exit → Act → World → Prop} (hgd : o.guard = none) (t : TypeId) (parts : List (Nat × Operand)) (ho : o.op = .build t parts.toArray) (v : Value)
    (hr : ∀ w, (Instr.build t (parts.map fun (i, x) => (i, a.eval x)).toArray).run P w = .ok v w)
    (h : wpList P ops Q rest (a.put o.dst v) w) : wpList P ops Q (o :: rest) a w :=
  wpList_plain hgd fun _ hK => by
    unfold Oper.wp execOp
    simp only [ho, List.map_toArray, hr, Sem.run_bind, Sem.run_pure, Result.andThen_ok]
    exact hK _ _ h
theorem wpList_store_newA {w : World} {ops : Array Oper} {rest : List Oper} {o : Oper} {a : Act} {Q : Exit → Act → World → Prop} (hgd : o.guard = none) (ty : TypeId) (x y : Operand) (ho : o.op = .store ty x y)
    (hx : a.eval x = .pointer (some ⟨w.heap.size, 0, none⟩)) (cs : Array Value) (hy : a.eval y = .agg cs) (cur : Array Value) (t : TypeId) (hl : cs.size = cur.size)
    (hi : (P.info? ty).map (·.size) = some cs.size) (h1 : ∀ v ∈ cs.toList, v.oneCell' = true)
    (h : wpList P ops Q rest (a.put o.dst undef) (w.alloc (.cells cs t))) : wpList P ops Q (o :: rest) a (w.alloc (.cells cur t)) :=
  wpList_store_blk hgd ty x y ho w.heap.size hx cs hy cur t (Blk.new w cur t) hl hi h1 (by rw [setRow_alloc]; exact h)
theorem wpList_load_newA {w : World} {ops : Array Oper} {rest : List Oper} {o : Oper} {a : Act} {Q : Exit → Act → World → Prop} (hgd : o.guard = none) (ty : TypeId) (x : Operand) (ho : o.op = .load ty x)
    (hx : a.eval x = .pointer (some ⟨w.heap.size, 0, none⟩)) (cs : Array Value) (t : TypeId) (d : TypeDesc)
    (hu : P.underlying ty = some d) (hd : (match d with | .struct _ | .array _ _ => true | _ => false) = true) (hi : (P.info? ty).map (·.size) = some cs.size)
    (h : wpList P ops Q rest (a.put o.dst (.agg cs)) (w.alloc (.cells cs t))) : wpList P ops Q (o :: rest) a (w.alloc (.cells cs t)) :=
  wpList_load_blk hgd ty x ho w.heap.size hx t cs d (Blk.new w cs t) hu hd hi h
end Go.Spec
namespace Go.Proofs.Ytjpnlnbpaecciaa
theorem Try.sizeHead : (Try.prog.info? 36).map (·.size) = some 33 := by kernel_rfl
theorem Try.sizeSigned : (Try.prog.info? 41).map (·.size) = some 36 := by kernel_rfl
open Go.RowKit Go.Spec
theorem buildHead (z : Int) (root : List UInt8) (h : root.length = 32) (w : World) : (Instr.build 36 #[(0, .int .i64 z), (1, hv root)]).run Try.prog w = .ok (.agg (hdA z root)) w := by
  obtain ⟨f, rfl⟩ := list32 root h
  kernel_rfl
theorem buildSigned (z i : Int) (root sig : List UInt8) (p : Value) (h : root.length = 32) (hp : p.cells = #[p]) (w : World) : (Instr.build 41 #[(0, .agg (hdA z root)), (1, .agg #[.int .i64 i, sv sig, p])]).run Try.prog w = .ok (.agg (sgA z root i sig p)) w := by
  obtain ⟨f, rfl⟩ := list32 root h
  kernel_rfl
theorem partHead0 (z : Int) (root : List UInt8) (h : root.length = 32) (w : World) : (part 3 (hdA z root) 0).run Try.prog w = .ok (.int .i64 z) w := by
  obtain ⟨f, rfl⟩ := list32 root h
  kernel_rfl
theorem partHead1 (z : Int) (root : List UInt8) (h : root.length = 32) (w : World) : (part 34 (hdA z root) 1).run Try.prog w = .ok (hv root) w := by
  obtain ⟨f, rfl⟩ := list32 root h
  kernel_rfl
theorem stoodHead : Try.prog.stoodInHeld 36 = false := by kernel_rfl
theorem equalHead (z z' : Int) (r r' : List UInt8) (h : r.length = 32) (h' : r'.length = 32) (w : World) :
    (Op.equalIn 10000 36 (.agg (hdA z r)) (.agg (hdA z' r'))).run Try.prog w = .ok (decide (z = z') && r == r') w := by
  rw [Op.equalIn]
  simp only [Sem.run_bind, run_underlying Try.underlying36, Result.andThen_ok, run_program, stoodHead, Bool.false_eq_true, if_false]
  have e1 : (Op.equalIn 9999 3 (.int .i64 z) (.int .i64 z')).run Try.prog w = .ok (z == z') w := run_equalIn_int w 9998 3 .i64 .i64 z z' Try.underlying3
  have e2 : (Op.equalIn 9999 34 (hv r) (hv r')).run Try.prog w = .ok (r == r') w := run_equalIn_hc 9997 32 34 5 r r' Try.underlying34 Try.underlying5 Try.sizeU8 h h'
  have hn1 : ("Size" : String) ≠ "_" := by decide
  have hn2 : ("Root" : String) ≠ "_" := by decide
  rw [← Array.forIn_toList]
  simp only [List.forIn_cons, List.forIn_nil, hn1, hn2, ne_eq, not_false_eq_true, if_true, Sem.run_bind, partHead0 z r h, partHead0 z' r' h', partHead1 z r h, partHead1 z' r' h', e1, e2, Result.andThen_ok]
  have hz : (z == z') = decide (z = z') := rfl
  rw [hz]
  cases decide (z = z') with
  | false => simp
  | true =>
    simp only [Bool.not_true, Bool.false_eq_true, if_false, Sem.run_pure, Result.andThen_ok, Sem.run_bind, partHead1 z r h, partHead1 z' r' h', e2, Bool.true_and]
    cases (r == r') <;> simp
end Go.Proofs.Ytjpnlnbpaecciaa
namespace Go.Proofs.Ytjpnlnbpaecciaa
open Go.RowKit Go.Spec
/-- a signed head's bytes -/
def putS (z : Nat) (root : List UInt8) (i : Nat) (sig : List UInt8) (path : List (List UInt8)) : List UInt8 := numL z ++ (root ++ (numL i ++ (numL sig.length ++ (sig ++ hashesL path))))
theorem valid_yes (z i : Nat) (root sig : List UInt8) (a : Option Addr) (cap : Nat) (w : World) (hr : root.length = 32) (hz : z ≤ 4096) (hi : i < 8) (hs : sig.length = 16384) :
    Calls Try.prog 21 #[.agg (sgA z root i sig (.slice a 3 cap))] w fun e w' => e = .returned (.bool true) ∧ Below w.heap.size w w' :=
  (valid_any z i root sig a 3 cap w hr).mono fun _ _ ⟨x, y⟩ => ⟨by rw [x]; simp [validB]; omega, y⟩
set_option maxHeartbeats 2000000 in
theorem sput_yes (z i : Nat) (root sig : List UInt8) (path : List (List UInt8)) (a : Option Addr) (cap : Nat) (w : World) (hr : root.length = 32) (hz : z ≤ 4096) (hi : i < 8) (hs : sig.length = 16384) (hp : path.length = 3) (hat : SlAt w 32 (.slice a 3 cap) (hcs path)) :
    Calls Try.prog 45 #[.agg (sgA z root i sig (.slice a 3 cap))] w fun e w' => e = .returned (.tuple #[sv (putS z root i sig path), .int .i64 0]) ∧ Below w.heap.size w w' := by
  have Hat := hid hat
  have V := hid (fun w0 => valid_yes z i root sig a cap w0 hr hz hi hs)
  have Hsz := hid (show (Try.prog.info? 41).map (·.size) = some (sgA z root i sig (.slice a 3 cap)).size by rw [sgA_size hr]; exact Try.sizeSigned)
  have Hsh := hid (show (Try.prog.info? 34).map (·.size) = some root.length by rw [hr]; exact Try.sizeHash)
  have Hr := hid hr
  have HS := hid hs
  have HP := hid hp
  have hn1 := numL_len z (by omega); have hn2 := numL_len i (by omega); have hn3 := numL_len sig.length (by omega)
  have hpl : (hashesL path).length ≤ 106 := by
    rw [hashesL, if_neg (by omega), List.length_append, flatten_len hat.len32]
    have := numL_len path.length (by omega)
    omega
  have hsl : sig.length ≤ 16384 := by omega
  have hrl : root.length ≤ 32 := by omega
  clear hat hs hp
  have HB0 : Hid (Blk (w.alloc (.cells (sgA z root i sig (.slice a 3 cap)) 41)) w.heap.size (sgA z root i sig (.slice a 3 cap)) 41) := hid (Blk.new _ _ _)
  go_enter Try.func45, Try.ntmps45
  go_upto_region 3 with (first
    | ((with_reducible show wpList _ _ _ ({ dst := _, op := Op.load 41 _, type := _, pos := _, after := _, guard := _ } :: _) _ _); refine wpList_load_blk rfl 41 _ rfl w.heap.size rfl 41 _ _ HB0.out Try.underlying41 rfl Hsz.out ?_)
    | (go_at_call 21; refine (V.out _).mono ?_; rintro e w1 ⟨rfl, hb1⟩))
  have HB1 := hid (HB0.out.later hb1)
  have HW1 := hid (((Below.refl _ w).alloc (Nat.le_refl _) (.cells (sgA z root i sig (.slice a 3 cap)) 41)).trans (hb1.mono (by simp)))
  have C1 := hid (fun x : Later w1 => num_any z (lat x) (by omega))
  have C2 := hid (fun x : Later w1 => num_any i (lat x) (by omega))
  have C3 := hid (fun x : Later w1 => text_any sig (lat x) (by omega))
  have C4 := hid (fun x : Later w1 => hash_any root (lat x) Hr.out)
  have C5 := hid (fun x : Later w1 => hashes_any _ path (lat x) ((Hat.out.below HW1.out (Nat.le_refl _)).below (lat_below x) (Nat.le_refl _)) (by rw [HP.out]; omega))
  clear hb1 HB0 hr
  refine wp_region_later (by kernel_rfl) (by kernel_rfl) ?_
  repeat (first
    | (refine wpQuiet_load_one rfl 3 _ rfl ⟨w.heap.size, 0, none⟩ rfl (.int .i64 z) _ (by rintro _ ⟨q, rfl⟩; exact (HB1.out.later (lat_below q)).sg0) Try.underlying3 rfl ?_; simp only [Act.put, List.setIfInBounds_toArray, List.set_cons_succ, List.set_cons_zero])
    | (refine wpQuiet_load_one rfl 3 _ rfl ⟨w.heap.size, 33, none⟩ rfl (.int .i64 i) _ (by rintro _ ⟨q, rfl⟩; exact (HB1.out.later (lat_below q)).sg33 Hr.out) Try.underlying3 rfl ?_; simp only [Act.put, List.setIfInBounds_toArray, List.set_cons_succ, List.set_cons_zero])
    | (refine wpQuiet_load_one rfl 9 _ rfl ⟨w.heap.size, 34, none⟩ rfl (sv sig) _ (by rintro _ ⟨q, rfl⟩; exact (HB1.out.later (lat_below q)).sg34 Hr.out) Try.underlying9 rfl ?_; simp only [Act.put, List.setIfInBounds_toArray, List.set_cons_succ, List.set_cons_zero])
    | (refine wpQuiet_load_one rfl 37 _ rfl ⟨w.heap.size, 35, none⟩ rfl (.slice a 3 cap) _ (by rintro _ ⟨q, rfl⟩; exact (HB1.out.later (lat_below q)).sg35 Hr.out) Try.underlying37 rfl ?_; simp only [Act.put, List.setIfInBounds_toArray, List.set_cons_succ, List.set_cons_zero])
    | (refine wpQuiet_load_hcG rfl 34 _ rfl ⟨w.heap.size, 1, none⟩ rfl root _ (by rintro _ ⟨q, rfl⟩; exact (HB1.out.later (lat_below q)).sgRoot Hr.out) Try.underlying34 rfl Hsh.out ?_; simp only [Act.put, List.setIfInBounds_toArray, List.set_cons_succ, List.set_cons_zero])
    | go_big_quiet_step ((first | (go_at_call 44; with_reducible exact calls_later (C1.out _)) | (go_at_call 44; with_reducible exact calls_later (C2.out _)) | (go_at_call 46; with_reducible exact calls_later (C3.out _)) | (go_at_call 52; with_reducible exact calls_later (C4.out _)) | (go_at_call 63; with_reducible exact calls_later (C5.out _)))))
  refine wpQuiet_nil ?_
  rintro _ ⟨q6, rfl⟩
  have hb6 := lat_below q6
  generalize lat q6 = w6 at *
  go_wp2
  go_ret2
  exact ⟨rfl, HW1.out.trans (hb6.mono HW1.out.size)⟩
theorem valid_no (z i : Int) (root sig : List UInt8) (a : Option Addr) (n cap : Nat) (w : World) (hr : root.length = 32) (hv : validB z i sig n = false) :
    Calls Try.prog 21 #[.agg (sgA z root i sig (.slice a n cap))] w fun e w' => e = .returned (.bool false) ∧ Below w.heap.size w w' :=
  (valid_any z i root sig a n cap w hr).mono fun _ _ ⟨x, y⟩ => ⟨by rw [x, hv], y⟩
set_option maxHeartbeats 2000000 in
theorem sput_no (z i : Int) (root sig : List UInt8) (a : Option Addr) (n cap : Nat) (w : World) (hr : root.length = 32) (hv : validB z i sig n = false) :
    Calls Try.prog 45 #[.agg (sgA z root i sig (.slice a n cap))] w fun e w' => e = .returned (.tuple #[sv [], .int .i64 2]) ∧ Below w.heap.size w w' := by
  have V := hid (fun w0 => valid_no z i root sig a n cap w0 hr hv)
  have Hsz := hid (show (Try.prog.info? 41).map (·.size) = some (sgA z root i sig (.slice a n cap)).size by rw [sgA_size hr]; exact Try.sizeSigned)
  clear hv
  have HB0 : Hid (Blk (w.alloc (.cells (sgA z root i sig (.slice a n cap)) 41)) w.heap.size (sgA z root i sig (.slice a n cap)) 41) := hid (Blk.new _ _ _)
  go_enter Try.func45, Try.ntmps45
  go_wp2_with (first
    | ((with_reducible show wpList _ _ _ ({ dst := _, op := Op.load 41 _, type := _, pos := _, after := _, guard := _ } :: _) _ _); refine wpList_load_blk rfl 41 _ rfl w.heap.size rfl 41 _ _ HB0.out Try.underlying41 rfl Hsz.out ?_)
    | (go_at_call 21; refine (V.out _).mono ?_; rintro e w1 ⟨rfl, hb1⟩))
  go_ret2
  exact ⟨rfl, ((Below.refl _ w).alloc (Nat.le_refl _) (.cells (sgA z root i sig (.slice a n cap)) 41)).trans (hb1.mono (by simp))⟩
theorem rvalid_yes (z i : Nat) (root sig : List UInt8) (a : Option Addr) (cap : Nat) (w : World) (hr : root.length = 32) (hz : z ≤ 4096) (hi : i < 8) (hs : sig.length = 16384) :
    Calls Try.prog 57 #[.agg (sgA z root i sig (.slice a 3 cap))] w fun e w' => e = .returned (.bool true) ∧ Below w.heap.size w w' :=
  (rvalid_any z i root sig a 3 cap w hr).mono fun _ _ ⟨x, y⟩ => ⟨by rw [x]; simp [validB]; omega, y⟩
set_option maxHeartbeats 2000000 in
theorem rsput_yes (z i : Nat) (root sig : List UInt8) (path : List (List UInt8)) (a : Option Addr) (cap : Nat) (w : World) (hr : root.length = 32) (hz : z ≤ 4096) (hi : i < 8) (hs : sig.length = 16384) (hp : path.length = 3) (hat : SlAt w 32 (.slice a 3 cap) (hcs path)) :
    Calls Try.prog 49 #[.agg (sgA z root i sig (.slice a 3 cap))] w fun e w' => e = .returned (.tuple #[sv (putS z root i sig path), .int .i64 0]) ∧ Below w.heap.size w w' := by
  have Hat := hid hat
  have V := hid (fun w0 => rvalid_yes z i root sig a cap w0 hr hz hi hs)
  have Hsz := hid (show (Try.prog.info? 41).map (·.size) = some (sgA z root i sig (.slice a 3 cap)).size by rw [sgA_size hr]; exact Try.sizeSigned)
  have Hsh := hid (show (Try.prog.info? 34).map (·.size) = some root.length by rw [hr]; exact Try.sizeHash)
  have Hr := hid hr
  have HS := hid hs
  have HP := hid hp
  have hn1 := numL_len z (by omega); have hn2 := numL_len i (by omega); have hn3 := numL_len sig.length (by omega)
  have hpl : (hashesL path).length ≤ 106 := by
    rw [hashesL, if_neg (by omega), List.length_append, flatten_len hat.len32]
    have := numL_len path.length (by omega)
    omega
  have hsl : sig.length ≤ 16384 := by omega
  have hrl : root.length ≤ 32 := by omega
  clear hat hs hp
  have HB0 : Hid (Blk (w.alloc (.cells (sgA z root i sig (.slice a 3 cap)) 41)) w.heap.size (sgA z root i sig (.slice a 3 cap)) 41) := hid (Blk.new _ _ _)
  go_enter Try.func49, Try.ntmps49
  go_upto_region 3 with (first
    | ((with_reducible show wpList _ _ _ ({ dst := _, op := Op.load 41 _, type := _, pos := _, after := _, guard := _ } :: _) _ _); refine wpList_load_blk rfl 41 _ rfl w.heap.size rfl 41 _ _ HB0.out Try.underlying41 rfl Hsz.out ?_)
    | (go_at_call 57; refine (V.out _).mono ?_; rintro e w1 ⟨rfl, hb1⟩))
  have HB1 := hid (HB0.out.later hb1)
  have HW1 := hid (((Below.refl _ w).alloc (Nat.le_refl _) (.cells (sgA z root i sig (.slice a 3 cap)) 41)).trans (hb1.mono (by simp)))
  have C1 := hid (fun x : Later w1 => rnum_any z (lat x) (by omega))
  have C2 := hid (fun x : Later w1 => rnum_any i (lat x) (by omega))
  have C3 := hid (fun x : Later w1 => rtext_any sig (lat x) (by omega))
  have C4 := hid (fun x : Later w1 => rhash_any root (lat x) Hr.out)
  have C5 := hid (fun x : Later w1 => rhashes_any _ path (lat x) ((Hat.out.below HW1.out (Nat.le_refl _)).below (lat_below x) (Nat.le_refl _)) (by rw [HP.out]; omega))
  clear hb1 HB0 hr
  refine wp_region_later (by kernel_rfl) (by kernel_rfl) ?_
  repeat (first
    | (refine wpQuiet_load_one rfl 3 _ rfl ⟨w.heap.size, 0, none⟩ rfl (.int .i64 z) _ (by rintro _ ⟨q, rfl⟩; exact (HB1.out.later (lat_below q)).sg0) Try.underlying3 rfl ?_; simp only [Act.put, List.setIfInBounds_toArray, List.set_cons_succ, List.set_cons_zero])
    | (refine wpQuiet_load_one rfl 3 _ rfl ⟨w.heap.size, 33, none⟩ rfl (.int .i64 i) _ (by rintro _ ⟨q, rfl⟩; exact (HB1.out.later (lat_below q)).sg33 Hr.out) Try.underlying3 rfl ?_; simp only [Act.put, List.setIfInBounds_toArray, List.set_cons_succ, List.set_cons_zero])
    | (refine wpQuiet_load_one rfl 9 _ rfl ⟨w.heap.size, 34, none⟩ rfl (sv sig) _ (by rintro _ ⟨q, rfl⟩; exact (HB1.out.later (lat_below q)).sg34 Hr.out) Try.underlying9 rfl ?_; simp only [Act.put, List.setIfInBounds_toArray, List.set_cons_succ, List.set_cons_zero])
    | (refine wpQuiet_load_one rfl 37 _ rfl ⟨w.heap.size, 35, none⟩ rfl (.slice a 3 cap) _ (by rintro _ ⟨q, rfl⟩; exact (HB1.out.later (lat_below q)).sg35 Hr.out) Try.underlying37 rfl ?_; simp only [Act.put, List.setIfInBounds_toArray, List.set_cons_succ, List.set_cons_zero])
    | (refine wpQuiet_load_hcG rfl 34 _ rfl ⟨w.heap.size, 1, none⟩ rfl root _ (by rintro _ ⟨q, rfl⟩; exact (HB1.out.later (lat_below q)).sgRoot Hr.out) Try.underlying34 rfl Hsh.out ?_; simp only [Act.put, List.setIfInBounds_toArray, List.set_cons_succ, List.set_cons_zero])
    | go_big_quiet_step ((first | (go_at_call 48; with_reducible exact calls_later (C1.out _)) | (go_at_call 48; with_reducible exact calls_later (C2.out _)) | (go_at_call 50; with_reducible exact calls_later (C3.out _)) | (go_at_call 53; with_reducible exact calls_later (C4.out _)) | (go_at_call 65; with_reducible exact calls_later (C5.out _)))))
  refine wpQuiet_nil ?_
  rintro _ ⟨q6, rfl⟩
  have hb6 := lat_below q6
  generalize lat q6 = w6 at *
  go_wp2
  go_ret2
  exact ⟨rfl, HW1.out.trans (hb6.mono HW1.out.size)⟩
theorem rvalid_no (z i : Int) (root sig : List UInt8) (a : Option Addr) (n cap : Nat) (w : World) (hr : root.length = 32) (hv : validB z i sig n = false) :
    Calls Try.prog 57 #[.agg (sgA z root i sig (.slice a n cap))] w fun e w' => e = .returned (.bool false) ∧ Below w.heap.size w w' :=
  (rvalid_any z i root sig a n cap w hr).mono fun _ _ ⟨x, y⟩ => ⟨by rw [x, hv], y⟩
set_option maxHeartbeats 2000000 in
theorem rsput_no (z i : Int) (root sig : List UInt8) (a : Option Addr) (n cap : Nat) (w : World) (hr : root.length = 32) (hv : validB z i sig n = false) :
    Calls Try.prog 49 #[.agg (sgA z root i sig (.slice a n cap))] w fun e w' => e = .returned (.tuple #[sv [], .int .i64 2]) ∧ Below w.heap.size w w' := by
  have V := hid (fun w0 => rvalid_no z i root sig a n cap w0 hr hv)
  have Hsz := hid (show (Try.prog.info? 41).map (·.size) = some (sgA z root i sig (.slice a n cap)).size by rw [sgA_size hr]; exact Try.sizeSigned)
  clear hv
  have HB0 : Hid (Blk (w.alloc (.cells (sgA z root i sig (.slice a n cap)) 41)) w.heap.size (sgA z root i sig (.slice a n cap)) 41) := hid (Blk.new _ _ _)
  go_enter Try.func49, Try.ntmps49
  go_wp2_with (first
    | ((with_reducible show wpList _ _ _ ({ dst := _, op := Op.load 41 _, type := _, pos := _, after := _, guard := _ } :: _) _ _); refine wpList_load_blk rfl 41 _ rfl w.heap.size rfl 41 _ _ HB0.out Try.underlying41 rfl Hsz.out ?_)
    | (go_at_call 57; refine (V.out _).mono ?_; rintro e w1 ⟨rfl, hb1⟩))
  go_ret2
  exact ⟨rfl, ((Below.refl _ w).alloc (Nat.le_refl _) (.cells (sgA z root i sig (.slice a n cap)) 41)).trans (hb1.mono (by simp))⟩
end Go.Proofs.Ytjpnlnbpaecciaa
/- Rows of heads and of signed heads. -/
namespace Go.Spec
open Go.RowKit
theorem flat_getG (size : Nat) : ∀ (css : List (List Value)), (∀ x ∈ css, x.length = size) → ∀ (i : Nat) (hi : i < css.length) (j : Nat), j < size → css.flatten[i * size + j]? = (css[i])[j]?
  | [], _, i, hi, _, _ => by simp at hi
  | x :: xs, h, 0, _, j, hj => by
    have hx : x.length = size := h x List.mem_cons_self
    rw [List.flatten_cons, List.getElem?_append_left (by omega)]; simp
  | x :: xs, h, i + 1, hi, j, hj => by
    have hx : x.length = size := h x List.mem_cons_self
    rw [List.flatten_cons, Nat.add_mul, Nat.one_mul, List.getElem?_append_right (by omega), show i * size + size + j - x.length = i * size + j by omega]
    rw [flat_getG size xs (fun y hy => h y (List.mem_cons_of_mem _ hy)) i (by simpa using hi) j hj]
    simp
theorem SlAt.of_ownsG {w : World} {base e size : Nat} {v : Value} {css : List (List Value)} (h : w.ownsRow base e size v css.length css.flatten) (hs : ∀ x ∈ css, x.length = size) : SlAt w size v css := by
  rcases h.2 with ⟨rfl, h0⟩ | ⟨g, cap, cur, rfl, hb, hg, hnc, hcm, _⟩
  · have : css = [] := List.eq_nil_of_length_eq_zero h0
    subst this
    exact ⟨none, 0, rfl, Nat.le_refl _, fun _ h => by simp at h, fun i cs h => by simp at h⟩
  · refine ⟨_, cap, rfl, hnc, hs, fun i cs hi => ⟨g, 0, rfl, (Array.getElem?_eq_some_iff.1 hg).1, fun j u hj => ?_⟩⟩
    have hi' : i < css.length := (List.getElem?_eq_some_iff.1 hi).1
    have he : cs = css[i] := by rw [List.getElem?_eq_getElem hi'] at hi; injection hi with hi; exact hi.symm
    subst he
    have hj' : j < size := by
      have := (List.getElem?_eq_some_iff.1 hj).1
      rwa [hs _ (List.getElem_mem hi')] at this
    have hx := h.cells (g := g) rfl (i * size + j) u (by rw [flat_getG size css hs i hi' j hj']; exact hj)
    rw [Addr.add_lit] at hx
    rw [show 0 + i * size + j = 0 + (i * size + j) by omega]
    exact hx
theorem SlAt.nilG (w : World) (size : Nat) : SlAt w size (.slice none 0 0) [] := ⟨none, 0, rfl, Nat.le_refl _, fun _ h => by simp at h, fun i cs h => by simp at h⟩
/-- a head -/
structure Hd where
  z : Int
  r : List UInt8
/-- its cells -/
def Hd.L (h : Hd) : List Value := (hdA h.z h.r).toList
structure HdsAt (w : World) (v : Value) (hs : List Hd) : Prop where
  at_ : SlAt w 33 v (hs.map Hd.L)
  ok : ∀ h ∈ hs, h.r.length = 32
/-- a signed head: its path lies at a, with so much room -/
structure Sg where
  z : Int
  root : List UInt8
  i : Int
  sig : List UInt8
  path : List (List UInt8)
  a : Option Addr
  cap : Nat
abbrev Sg.p (d : Sg) : Value := .slice d.a d.path.length d.cap
def Sg.L (d : Sg) : List Value := (sgA d.z d.root d.i d.sig d.p).toList
structure Sg.In (w : World) (d : Sg) : Prop where
  r32 : d.root.length = 32
  at_ : SlAt w 32 d.p (hcs d.path)
  sl : d.sig.length ≤ 1000000000
  pl : d.path.length ≤ 1000000000
theorem Sg.In.below {w w' : World} {d : Sg} (h : d.In w) (hb : Below w.heap.size w w') : d.In w' := ⟨h.r32, h.at_.below hb (Nat.le_refl _), h.sl, h.pl⟩
structure SgsAt (w : World) (v : Value) (ds : List Sg) : Prop where
  at_ : SlAt w 36 v (ds.map Sg.L)
  ok : ∀ d ∈ ds, d.In w
theorem SgsAt.below {w w' : World} {v : Value} {ds : List Sg} (h : SgsAt w v ds) (hb : Below w.heap.size w w') : SgsAt w' v ds := ⟨h.at_.below hb (Nat.le_refl _), fun d hd => (h.ok d hd).below hb⟩
theorem HdsAt.below {w w' : World} {v : Value} {hs : List Hd} (h : HdsAt w v hs) (hb : Below w.heap.size w w') : HdsAt w' v hs := ⟨h.at_.below hb (Nat.le_refl _), h.ok⟩
theorem SgsAt.form {w : World} {v : Value} {ds : List Sg} (h : SgsAt w v ds) : ∃ a cap, v = .slice a ds.length cap ∧ ds.length ≤ cap := by
  have := h.at_.form
  rwa [List.length_map] at this
theorem HdsAt.form {w : World} {v : Value} {hs : List Hd} (h : HdsAt w v hs) : ∃ a cap, v = .slice a hs.length cap ∧ hs.length ≤ cap := by
  have := h.at_.form
  rwa [List.length_map] at this
theorem SgsAt.get {w : World} {a : Option Addr} {n cap : Nat} {ds : List Sg} (h : SgsAt w (.slice a n cap) ds) {i : Nat} (hi : i < ds.length) :
    ∃ b o, a = some ⟨b, o, none⟩ ∧ b < w.heap.size ∧ (∀ j u, (sgA ds[i].z ds[i].root ds[i].i ds[i].sig ds[i].p).toList[j]? = some u → w.cell? ((⟨b, o + i * 36, none⟩ : Addr).add j) = some u) := by
  obtain ⟨b, o, ha, hb, _, hc⟩ := h.at_.at (i := i) (cs := ds[i].L) (by simp [hi])
  exact ⟨b, o, ha, hb, hc⟩
theorem HdsAt.get {w : World} {a : Option Addr} {n cap : Nat} {hs : List Hd} (h : HdsAt w (.slice a n cap) hs) {i : Nat} (hi : i < hs.length) :
    ∃ b o, a = some ⟨b, o, none⟩ ∧ b < w.heap.size ∧ (∀ j u, (hdA hs[i].z hs[i].r).toList[j]? = some u → w.cell? ((⟨b, o + i * 33, none⟩ : Addr).add j) = some u) := by
  obtain ⟨b, o, ha, hb, _, hc⟩ := h.at_.at (i := i) (cs := hs[i].L) (by simp [hi])
  exact ⟨b, o, ha, hb, hc⟩
theorem SgsAt.nil (w : World) : SgsAt w (.slice none 0 0) [] := ⟨SlAt.nilG w 36, fun _ h => by simp at h⟩
theorem HdsAt.nil (w : World) : HdsAt w (.slice none 0 0) [] := ⟨SlAt.nilG w 33, fun _ h => by simp at h⟩
/-- the cells of signed heads, one behind the other -/
def sgF (ds : List Sg) : List Value := (ds.map Sg.L).flatten
def hdF (hs : List Hd) : List Value := (hs.map Hd.L).flatten
theorem sgF_snoc (ds : List Sg) (d : Sg) : sgF (ds ++ [d]) = sgF ds ++ d.L := by unfold sgF; rw [List.map_append, List.flatten_append]; simp
theorem hdF_snoc (hs : List Hd) (h : Hd) : hdF (hs ++ [h]) = hdF hs ++ h.L := by unfold hdF; rw [List.map_append, List.flatten_append]; simp
theorem Sg.L_len {d : Sg} (h : d.root.length = 32) : d.L.length = 36 := by
  have := sgA_size (z := d.z) (i := d.i) (sig := d.sig) (p := d.p) h
  unfold Sg.L; rw [Array.length_toList]; exact this
theorem Hd.L_len {d : Hd} (h : d.r.length = 32) : d.L.length = 33 := by
  have := hdA_size (z := d.z) h
  unfold Hd.L; rw [Array.length_toList]; exact this
theorem SgsAt.of_owns {w : World} {base e : Nat} {v : Value} {ds : List Sg} (h : w.ownsRow base e 36 v ds.length (sgF ds)) (ok : ∀ d ∈ ds, d.In w) : SgsAt w v ds := by
  refine ⟨SlAt.of_ownsG (base := base) (e := e) (by rw [List.length_map]; exact h) ?_, ok⟩
  intro x hx
  simp only [List.mem_map] at hx
  obtain ⟨d, hd, rfl⟩ := hx
  exact Sg.L_len (ok d hd).r32
theorem HdsAt.of_owns {w : World} {base e : Nat} {v : Value} {hs : List Hd} (h : w.ownsRow base e 33 v hs.length (hdF hs)) (ok : ∀ d ∈ hs, d.r.length = 32) : HdsAt w v hs := by
  refine ⟨SlAt.of_ownsG (base := base) (e := e) (by rw [List.length_map]; exact h) ?_, ok⟩
  intro x hx
  simp only [List.mem_map] at hx
  obtain ⟨d, hd, rfl⟩ := hx
  exact Hd.L_len (ok d hd)
end Go.Spec
namespace Go.Proofs.Ytjpnlnbpaecciaa
open Go.RowKit Go.Spec
def _root_.Go.Spec.Sg.valid (d : Sg) : Bool := validB d.z d.i d.sig d.path.length
def _root_.Go.Spec.Sg.bytes (d : Sg) : List UInt8 := putS d.z.toNat d.root d.i.toNat d.sig d.path
/-- bytes and an error's number -/
def putR : Option (List UInt8) → Value
  | some s => .tuple #[sv s, .int .i64 0]
  | none => .tuple #[sv [], .int .i64 2]
def _root_.Go.Spec.Sg.put (d : Sg) : Option (List UInt8) := if d.valid then some d.bytes else none
theorem validB_iff {z i : Int} {sig : List UInt8} {n : Nat} : validB z i sig n = true ↔ (0 ≤ z ∧ z ≤ 4096) ∧ 0 ≤ i ∧ i < 8 ∧ sig.length = 16384 ∧ n = 3 := by
  simp [validB, and_assoc]
theorem sput_any (d : Sg) (w : World) (h : d.In w) :
    Calls Try.prog 45 #[.agg (sgA d.z d.root d.i d.sig d.p)] w fun e w' => e = .returned (putR d.put) ∧ Below w.heap.size w w' := by
  obtain ⟨z, root, i, sig, path, a, cap⟩ := d
  unfold Sg.put Sg.valid Sg.bytes
  cases hv : validB z i sig path.length with
  | true =>
    obtain ⟨⟨h1, h2⟩, h3, h4, h5, h6⟩ := validB_iff.1 hv
    obtain ⟨zn, rfl⟩ : ∃ n : Nat, z = n := ⟨z.toNat, by omega⟩
    obtain ⟨jn, rfl⟩ : ∃ n : Nat, i = n := ⟨i.toNat, by omega⟩
    have := sput_yes zn jn root sig path a cap w h.r32 (by omega) (by omega) h5 h6 (by have := h.at_; simpa only [Sg.p, h6] using this)
    simp only [Sg.p, h6, Int.toNat_natCast, if_true]
    exact this
  | false =>
    have := sput_no z i root sig a path.length cap w h.r32 hv
    simpa [Sg.p, putR] using this
theorem rsput_any (d : Sg) (w : World) (h : d.In w) :
    Calls Try.prog 49 #[.agg (sgA d.z d.root d.i d.sig d.p)] w fun e w' => e = .returned (putR d.put) ∧ Below w.heap.size w w' := by
  obtain ⟨z, root, i, sig, path, a, cap⟩ := d
  unfold Sg.put Sg.valid Sg.bytes
  cases hv : validB z i sig path.length with
  | true =>
    obtain ⟨⟨h1, h2⟩, h3, h4, h5, h6⟩ := validB_iff.1 hv
    obtain ⟨zn, rfl⟩ : ∃ n : Nat, z = n := ⟨z.toNat, by omega⟩
    obtain ⟨jn, rfl⟩ : ∃ n : Nat, i = n := ⟨i.toNat, by omega⟩
    have := rsput_yes zn jn root sig path a cap w h.r32 (by omega) (by omega) h5 h6 (by have := h.at_; simpa only [Sg.p, h6] using this)
    simp only [Sg.p, h6, Int.toNat_natCast, if_true]
    exact this
  | false =>
    have := rsput_no z i root sig a path.length cap w h.r32 hv
    simpa [Sg.p, putR] using this
theorem bytes_len (d : Sg) (hv : d.valid = true) (hr : d.root.length = 32) (h32 : ∀ x ∈ d.path, x.length = 32) : d.bytes.length ≤ 17000 := by
  obtain ⟨⟨h1, h2⟩, h3, h4, h5, h6⟩ := validB_iff.1 hv
  have e1 := numL_len d.z.toNat (by omega)
  have e2 := numL_len d.i.toNat (by omega)
  have e3 := numL_len d.sig.length (by omega)
  have e4 := numL_len d.path.length (by omega)
  have e5 : (hashesL d.path).length ≤ 106 := by
    rw [hashesL, if_neg (by omega), List.length_append, flatten_len h32]; omega
  unfold Sg.bytes putS
  simp only [List.length_append]
  omega
end Go.Proofs.Ytjpnlnbpaecciaa
