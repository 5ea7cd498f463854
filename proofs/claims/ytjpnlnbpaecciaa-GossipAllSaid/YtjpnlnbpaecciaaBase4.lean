/- Whole blocks: a row of cells by one function, read and written cell by cell; make; numbers of 32 bits. -/
import Derived.Test.YtjpnlnbpaecciaaBase3
import Derived.Laws.MakeOwn
import Derived.Laws.Rows
import Derived.StillTailTactics
import Derived.IntWalk
namespace Go.Spec
open Go.RowKit
variable {P : Program} {w : World}
def rowOf {α : Type} (f : α → Value) (l : List α) : Array Value := (l.map f).toArray
theorem hc_row (l : List UInt8) : hc l = rowOf bcell l := rfl
@[go_sem] theorem rowOf_size {α : Type} (f : α → Value) (l : List α) : (rowOf f l).size = l.length := by simp [rowOf]
theorem rowOf_get {α : Type} (f : α → Value) (l : List α) (i : Nat) : (rowOf f l)[i]? = l[i]?.map f := by simp [rowOf]
theorem rowOf_set {α : Type} (f : α → Value) (l : List α) (i : Nat) (b : α) : (rowOf f l).setIfInBounds i (f b) = rowOf f (l.set i b) := by
  simp [rowOf, List.map_set]
/-- a block, whole -/
def Blk (w : World) (g : Nat) (cs : Array Value) (t : TypeId) : Prop := w.heap[g]? = some (.cells cs t (0, 0))
theorem Blk.lt {g : Nat} {cs : Array Value} {t : TypeId} (h : Blk w g cs t) : g < w.heap.size := (Array.getElem?_eq_some_iff.1 h).1
theorem Blk.new (w : World) (cs : Array Value) (t : TypeId) : Blk (w.alloc (.cells cs t (0, 0))) w.heap.size cs t := heap_alloc_new w _
theorem Blk.new' (w : World) (cs : Array Value) (t : TypeId) {g : Nat} (h : g = w.heap.size) : Blk (w.alloc (.cells cs t (0, 0))) g cs t := by subst h; exact heap_alloc_new w _
theorem Blk.below {w' : World} {g : Nat} {cs : Array Value} {t : TypeId} (h : Blk w g cs t) {B : Nat} (hb : Below B w w') (hg : g < B) : Blk w' g cs t := (hb.block g hg).trans h
theorem Blk.later {w' : World} {g : Nat} {cs : Array Value} {t : TypeId} (h : Blk w g cs t) (hb : Below w.heap.size w w') : Blk w' g cs t := h.below hb h.lt
theorem Blk.alloc {g : Nat} {cs : Array Value} {t : TypeId} (h : Blk w g cs t) (o : Obj) : Blk (w.alloc o) g cs t := by
  unfold Blk at *
  rw [← h]
  exact (Below.alloc (Below.refl w.heap.size w) (Nat.le_refl _) o).block g (Array.getElem?_eq_some_iff.1 h).1
theorem Blk.cell {g : Nat} {cs : Array Value} {t : TypeId} (h : Blk w g cs t) (i : Nat) : w.cell? ⟨g, i, none⟩ = cs[i]? := by
  have := cell_at_row h i
  rw [Addr.add_lit] at this
  simpa using this
theorem Blk.free {g : Nat} {cs : Array Value} {t : TypeId} (h : Blk w g cs t) (i : Nat) : w.frozen? ⟨g, i, none⟩ = false := by
  unfold World.frozen?
  rw [h]; simp
theorem Blk.cells {g : Nat} {cs : Array Value} {t : TypeId} (h : Blk w g cs t) : ∀ j u, cs.toList[j]? = some u → w.cell? ((⟨g, 0, none⟩ : Addr).add j) = some u := by
  intro j u hu
  rw [cell_at_row h j]
  simpa using hu
theorem Blk.setCell {g : Nat} {cs : Array Value} {t : TypeId} (h : Blk w g cs t) (i : Nat) (v : Value) : Blk (w.setCell ⟨g, i, none⟩ v) g (cs.setIfInBounds i v) t := by
  unfold Blk at *
  simp [World.setCell, Array.getElem?_modify, h]
theorem Blk.setCell_ne {g : Nat} {cs : Array Value} {t : TypeId} (h : Blk w g cs t) {a : Addr} (ha : a.block ≠ g) (v : Value) : Blk (w.setCell a v) g cs t := by
  unfold Blk at *
  rw [← h]
  simp [World.setCell, Array.getElem?_modify]
  intro h'; exact absurd h' ha
theorem Blk.setRow {g : Nat} {cs cs' : Array Value} {t : TypeId} (h : Blk w g cs t) : Blk (w.setRow g cs') g cs' t := setRow_get h
theorem Blk.setRow_ne {g k : Nat} {cs cs' : Array Value} {t : TypeId} (h : Blk w g cs t) (hk : g ≠ k) : Blk (w.setRow k cs') g cs t := (Go.Spec.setRow_ne hk).trans h
theorem Blk.heap {w' : World} {g : Nat} {cs : Array Value} {t : TypeId} (h : Blk w g cs t) (he : w'.heap = w.heap) : Blk w' g cs t := by unfold Blk; rw [he]; exact h
theorem Blk.drew {g : Nat} {cs : Array Value} {t : TypeId} (h : Blk w g cs t) : Blk w.drew g cs t := h
theorem Blk.drewN {g : Nat} {cs : Array Value} {t : TypeId} (h : Blk w g cs t) (n : Nat) : Blk (w.drewN n) g cs t := h
/-- rows of numbers of 32 bits -/
def uc (n : Nat) : Value := .int .u32 (n : Int)
theorem uc_one (l : List Nat) : ∀ u ∈ l.map uc, u.oneCell' = true := by
  intro u hu; simp at hu; obtain ⟨b, _, rfl⟩ := hu; rfl
theorem Blk.u32 {g : Nat} {ns : List Nat} {t : TypeId} (h : Blk w g (rowOf uc ns) t) (i : Nat) (hi : i < ns.length) : w.cell? ⟨g, i, none⟩ = some (.int .u32 (ns.getD i 0 : Nat)) := by
  rw [h.cell, rowOf_get, List.getD_eq_getElem?_getD, List.getElem?_eq_getElem hi]; rfl
theorem Blk.u32set {g : Nat} {ns : List Nat} {t : TypeId} (h : Blk w g (rowOf uc ns) t) (i : Nat) (x : Nat) : Blk (w.setCell ⟨g, i, none⟩ (.int .u32 (x : Int))) g (rowOf uc (ns.set i x)) t := by
  have := h.setCell i (uc x)
  rw [rowOf_set] at this
  exact this
theorem Blk.u8 {g : Nat} {l : List UInt8} {t : TypeId} (h : Blk w g (hc l) t) (i : Nat) (hi : i < l.length) : w.cell? ⟨g, i, none⟩ = some (.int .u8 ((l.getD i 0).toNat : Nat)) := by
  rw [h.cell, hc_get l i hi, List.getD_eq_getElem?_getD, List.getElem?_eq_getElem hi]; rfl
theorem Blk.u8set {g : Nat} {l : List UInt8} {t : TypeId} (h : Blk w g (hc l) t) (i : Nat) (x : UInt8) : Blk (w.setCell ⟨g, i, none⟩ (bcell x)) g (hc (l.set i x)) t := by
  have := h.setCell i (bcell x)
  rw [hc_row, rowOf_set] at this
  exact this
/-- make of bytes -/
theorem run_make_bytes (t e : TypeId) (i : TypeInfo) (ht : P.underlying t = some (.slice e)) (hi : P.info? e = some i) (hz : i.zero = some (.int .u8 0)) (h1 : i.size = 1) (h2 : i.bytes = 1) (n : Nat) (hn : n ≤ 281474976710656) (w : World) :
    (Instr.makeSlice t (.int .i64 (n : Int)) (.int .i64 (n : Int))).run P w = .ok (.slice (some ⟨w.heap.size, 0, none⟩) n n) (w.alloc (.cells (hc (List.replicate n 0)) e)) := by
  have hr := run_make (P := P) w t e i (.int .u8 0) ht hi hz .i64 .i64 (n : Int) (n : Int) (by omega) (Int.le_refl _) (by rw [h2]; omega) (by omega)
  rw [hr, h1]
  have : madeCells (Value.int .u8 0).cells ((n : Int).toNat * 1) = hc (List.replicate n 0) := by
    simp [madeCells, Value.cells, hc, bcell, Nat.mod_one]
    apply Array.ext
    · simp
    · intro j h1 h2; simp
  rw [this]; simp
/-- a row known whole is a row of the call's own -/
theorem Blk.owns {g : Nat} {cs : Array Value} {t : TypeId} (h : Blk w g cs t) {base size n : Nat} (hb : base ≤ g) (hn : n ≤ maxLen) (hs : cs.size = n * size) : w.ownsRow base t size (.slice (some ⟨g, 0, none⟩) n n) n cs.toList :=
  ⟨by rw [← hs]; exact Array.length_toList, .inr ⟨g, n, cs, rfl, hb, h, Nat.le_refl _, hn, hs, by rw [← hs]; exact List.take_of_length_le (by rw [Array.length_toList]; exact Nat.le_refl _)⟩⟩
theorem bth {w a b : World} (h : Below w.heap.size w a) (k : Below a.heap.size a b) : Below w.heap.size w b := h.trans (k.mono h.size)
theorem rowOf_toList {α : Type} (f : α → Value) (l : List α) : (rowOf f l).toList = l.map f := by simp [rowOf]
theorem wpList_store_blk {ops : Array Oper} {rest : List Oper} {o : Oper} {a : Act} {Q : Exit → Act → World → Prop} (hgd : o.guard = none) (ty : TypeId) (x y : Operand) (ho : o.op = .store ty x y)
    (g : Nat) (hx : a.eval x = .pointer (some ⟨g, 0, none⟩)) (cs : Array Value) (hy : a.eval y = .agg cs) (cur : Array Value) (t : TypeId) (hg : Blk w g cur t) (hl : cs.size = cur.size)
    (hi : (P.info? ty).map (·.size) = some cs.size) (h1 : ∀ v ∈ cs.toList, v.oneCell' = true)
    (h : wpList P ops Q rest (a.put o.dst undef) (w.setRow g cs)) : wpList P ops Q (o :: rest) a w := by
  have := wpList_store_row (P := P) (w := w) (ops := ops) (rest := rest) (a := a) (Q := Q) hgd ty x y ho g hx cs.toList (by simpa using hy) cur t hg (by simpa using hl) (by simpa using hi) h1
  exact this (by simpa using h)
theorem wpList_load_blk {ops : Array Oper} {rest : List Oper} {o : Oper} {a : Act} {Q : Exit → Act → World → Prop} (hgd : o.guard = none) (ty : TypeId) (x : Operand) (ho : o.op = .load ty x)
    (g : Nat) (hx : a.eval x = .pointer (some ⟨g, 0, none⟩)) (t : TypeId) (cs : Array Value) (d : TypeDesc) (hg : Blk w g cs t)
    (hu : P.underlying ty = some d) (hd : (match d with | .struct _ | .array _ _ => true | _ => false) = true) (hi : (P.info? ty).map (·.size) = some cs.size)
    (h : wpList P ops Q rest (a.put o.dst (.agg cs)) w) : wpList P ops Q (o :: rest) a w :=
  wpList_load_row hgd ty x ho g hx t cs (0, 0) d hg hu hd hi h
theorem wpStill_load_blk {ops : Array Oper} {rest : List Oper} {o : Oper} {a : Act} {Q : Act → Prop} (hgd : o.guard = none) (ty : TypeId) (x : Operand) (ho : o.op = .load ty x)
    (g : Nat) (hx : a.eval x = .pointer (some ⟨g, 0, none⟩)) (t : TypeId) (cs : Array Value) (d : TypeDesc) (hg : Blk w g cs t)
    (hu : P.underlying ty = some d) (hd : (match d with | .struct _ | .array _ _ => true | _ => false) = true) (hi : (P.info? ty).map (·.size) = some cs.size)
    (h : wpStill P ops w Q rest (a.put o.dst (.agg cs))) : wpStill P ops w Q (o :: rest) a := by
  unfold wpStill
  rw [if_pos (by simp [Region.wanted, hgd])]
  have hr := run_loadVar_row (P := P) w g t ty cs (0, 0) d hg hu hd hi
  unfold Oper.still execOp
  simp only [ho, hx, Instr.loadAt, Instr.sureAddr, Sem.run_bind, Sem.run_pure, Result.andThen_ok, hr]
  exact ⟨rfl, h⟩
/-- 'h[i:]' of an array of bytes behind a pointer -/
theorem run_sliceAt_bytes (t e : TypeId) (n : Nat) (ht : P.underlying t = some (.array n e)) (hs : (P.info? e).map (·.size) = some 1) (g l : Nat) (i : Int) (hi : i = l) (hl : l < n) (w : World) :
    (Instr.sliceAt t (.pointer (some ⟨g, 0, none⟩)) (some (.int .i64 i)) none none).run P w = .ok (.slice (some ⟨g, l, none⟩) (n - l) (n - l)) w := by
  subst hi
  cases hq : P.info? e with
  | none => simp [hq] at hs
  | some j =>
    have hj : j.size = 1 := by simpa [hq] using hs
    have h1 : ((0 : Int) ≤ (l : Int) ∧ (l : Int) ≤ (n : Int)) := by omega
    have h2 : n ≠ l := by omega
    have h3 : l ≤ n := by omega
    simp [Instr.sliceAt, Instr.sureAddr, run_underlying ht, Instr.sliceBounds, Instr.sliceBound, asIntOf, Sem.run_bind, sizeOf, typeInfo, hq, hj, h1, h2, h3, Addr.add_lit]
/-- an array of constants -/
theorem wpList_buildV {ops : Array Oper} {rest : List Oper} {o : Oper} {a : Act} {Q : Exit → Act → World → Prop} (hgd : o.guard = none) (t : TypeId) (parts : Array (Nat × Operand)) (ho : o.op = .build t parts) (v : Value)
    (hr : (Instr.build t (parts.map fun (i, x) => (i, a.eval x))).run P w = .ok v w)
    (h : wpList P ops Q rest (a.put o.dst v) w) : wpList P ops Q (o :: rest) a w :=
  wpList_plain hgd fun _ hK => by
    unfold Oper.wp execOp
    simp only [ho, hr, Sem.run_bind, Sem.run_pure, Result.andThen_ok]
    exact hK _ _ h
theorem uc_row_one (l : List Nat) : ∀ v ∈ (rowOf uc l).toList, v.oneCell' = true := by rw [rowOf_toList]; exact uc_one l
theorem hc_row_one (l : List UInt8) : ∀ v ∈ (hc l).toList, v.oneCell' = true := by rw [hc_toList]; exact bcell_one l
/-- an array of numbers by value, indexed -/
theorem run_index_agg (t e : TypeId) (n : Nat) (cs : Array Value) (k : Nat) (v : Value) (d : TypeDesc) (ht : P.underlying t = some (.array n e)) (he : P.underlying e = some d) (hd : (match d with | .struct _ | .array _ _ => false | _ => true) = true) (hs : (P.info? e).map (·.size) = some 1) (hk : k < n) (hv : cs[k]? = some v) (w : World) :
    (Instr.index t (.agg cs) (.int .i64 (k : Int))).run P w = .ok v w := by
  cases hq : P.info? e with
  | none => simp [hq] at hs
  | some i =>
    have hi : i.size = 1 := by simpa [hq] using hs
    have hnot : (isAgg e).run P w = .ok false w := by
      unfold isAgg; rw [Sem.run_bind, run_underlying he w]
      cases d <;> simp_all
    simp [Instr.index, Sem.run_bind, asIntOf, run_underlying ht, sizeOf, typeInfo, hq, hi, hk, part, hnot, hv]
theorem run_index_row (t e : TypeId) (n : Nat) (ns : List Nat) (k : Nat) (ht : P.underlying t = some (.array n e)) (he : P.underlying e = some (.int .u32)) (hs : (P.info? e).map (·.size) = some 1) (hk : k < n) (hl : k < ns.length) (w : World) :
    (Instr.index t (.agg (rowOf uc ns)) (.int .i64 (k : Int))).run P w = .ok (.int .u32 (ns.getD k 0 : Nat)) w :=
  run_index_agg t e n _ k _ _ ht he rfl hs hk (by rw [rowOf_get, List.getD_eq_getElem?_getD, List.getElem?_eq_getElem hl]; rfl) w
/-- a table of the program's -/
structure Tab (w : World) (g : Nat) (ns : List Nat) : Prop where
  lt : g < w.heap.size
  at_ : ∀ i, i < ns.length → w.cell? ⟨g, i, none⟩ = some (.int .u32 (ns.getD i 0 : Nat))
theorem Tab.later {w' : World} {g : Nat} {ns : List Nat} (h : Tab w g ns) (hb : Below w.heap.size w w') : Tab w' g ns :=
  ⟨Nat.lt_of_lt_of_le h.lt hb.size, fun i hi => (hb.cell (p := ⟨g, i, none⟩) h.lt).trans (h.at_ i hi)⟩
theorem Tab.heap {w' : World} {g : Nat} {ns : List Nat} (h : Tab w g ns) (he : w'.heap = w.heap) : Tab w' g ns :=
  ⟨by rw [he]; exact h.lt, fun i hi => by rw [← h.at_ i hi]; unfold World.cell?; rw [he]⟩
theorem Tab.row {g k : Nat} {ns : List Nat} {cs : Array Value} (h : Tab w g ns) (hk : g ≠ k) : Tab (w.setRow k cs) g ns :=
  ⟨by rw [setRow_size']; exact h.lt, fun i hi => by rw [← h.at_ i hi]; unfold World.cell?; rw [Go.Spec.setRow_ne hk]⟩
/-- a region that draws its order: quiet operations ahead of a forced tail; the world behind the draw under a name -/
theorem wp_region_tail {id : Nat} {Q : Exit → Act → World → Prop} {a : Act} {l : List Oper} (n : Nat) (hm : P.follows .mixedOrders = true) (hB : Region.lexTailB .any l.toArray n = true)
    (h : ∀ w1 : World, w1.heap = w.heap → Below w.heap.size w w1 → wpStill P l.toArray w1 (fun a' => wpList P l.toArray Q (l.drop n) a' w1) (l.take n) a) : (Code.region id l.toArray true).wp P Q a w :=
  wp_region_still_tail n hm hB (h _ rfl (Below.refl _ w).drew)
end Go.Spec
