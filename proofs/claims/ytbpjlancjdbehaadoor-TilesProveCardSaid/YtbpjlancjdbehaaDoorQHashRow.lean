/- Rows of hashes in one block, written one at a time. -/
import Derived.Test.YtbpjlancjdbehaaDoorQZero
import Derived.Laws.MakeOwn
set_option maxRecDepth 100000
namespace Go.Spec
open Go.RowKit
variable {P : Program} {w : World}
/-- a store of a row of bytes into a part of a block -/
theorem run_storeVar_part (ty : TypeId) (g o : Nat) (cur : Array Value) (t : TypeId) (l : List UInt8) (hg : Blk w g cur t) (hfit : o + l.length ≤ cur.size) (hi : (P.info? ty).map (·.size) = some l.length) :
    (storeVar ty ⟨g, o, none⟩ (hv l)).run P w = .ok () (w.setRow g (cur.toList.take o ++ l.map bcell ++ cur.toList.drop (o + l.length)).toArray) := by
  have hst := run_storeCells_at P g o t (l.map bcell) 0 cur w hg (by simpa using hfit) (bcell_one l)
  simp only [Nat.add_zero, List.length_map] at hst
  cases hq : P.info? ty with
  | none => simp [hq] at hi
  | some i =>
    have hs : i.size = l.length := by simpa [hq] using hi
    have hcs : (hv l).cells = (l.map bcell).toArray := rfl
    simp [storeVar, Sem.run_bind, sizeOf, typeInfo, hq, hs, hst, hcs]
/-- the bytes of hashes, one behind the other, with one that is another one -/
theorem flatten_set : ∀ (hs : List (List UInt8)), (∀ x ∈ hs, x.length = 32) → ∀ (k : Nat) (l : List UInt8), l.length = 32 → k < hs.length →
    (hs.set k l).flatten = hs.flatten.take (k * 32) ++ l ++ hs.flatten.drop (k * 32 + 32)
  | [], _, k, l, _, hk => by simp at hk
  | x :: xs, h32, 0, l, hl, _ => by
    have hx := h32 x List.mem_cons_self
    simp only [List.set_cons_zero, List.flatten_cons, Nat.zero_mul, List.take_zero, List.nil_append, Nat.zero_add]
    rw [List.drop_left' hx]
  | x :: xs, h32, k + 1, l, hl, hk => by
    have hx := h32 x List.mem_cons_self
    rw [List.set_cons_succ, List.flatten_cons, flatten_set xs (fun y hy => h32 y (List.mem_cons_of_mem _ hy)) k l hl (by simpa using hk), List.flatten_cons]
    rw [show (k + 1) * 32 = x.length + k * 32 by omega, show x.length + k * 32 + 32 = x.length + (k * 32 + 32) by omega, List.take_length_add_append, List.drop_length_add_append]
    simp [List.append_assoc]
/-- a block that holds hashes, one behind the other -/
def HsBlk (w : World) (g : Nat) (hs : List (List UInt8)) (t : TypeId) : Prop := Blk w g (hc hs.flatten) t ∧ ∀ x ∈ hs, x.length = 32
theorem HsBlk.later {w' : World} {g : Nat} {hs : List (List UInt8)} {t : TypeId} (h : HsBlk w g hs t) (hb : Below w.heap.size w w') : HsBlk w' g hs t := ⟨h.1.later hb, h.2⟩
theorem HsBlk.sl {g : Nat} {hs : List (List UInt8)} {t : TypeId} (h : HsBlk w g hs t) (hn : hs.length ≤ maxLen) : SlAt w 32 (.slice (some ⟨g, 0, none⟩) hs.length hs.length) (hcs hs) := by
  refine SlAt.of_owns (size := 32) (base := 0) (e := t) ?_ h.2
  have := Blk.owns h.1 (base := 0) (size := 32) (n := hs.length) (Nat.zero_le _) hn (by rw [hc_size, flatten_len h.2])
  rw [hc_toList] at this
  exact this
theorem HsBlk.set {g : Nat} {hs : List (List UInt8)} {t : TypeId} (h : HsBlk w g hs t) (k : Nat) (l : List UInt8) (hl : l.length = 32) (hk : k < hs.length) :
    HsBlk (w.setRow g ((hc hs.flatten).toList.take (k * 32) ++ l.map bcell ++ (hc hs.flatten).toList.drop (k * 32 + l.length)).toArray) g (hs.set k l) t := by
  refine ⟨?_, fun x hx => ?_⟩
  · have := h.1.setRow (cs' := hc (hs.set k l).flatten)
    rw [flatten_set hs h.2 k l hl hk] at this ⊢
    rw [hl, hc_toList, ← List.map_take, ← List.map_drop]
    unfold hc at this ⊢
    rw [List.map_append, List.map_append] at this ⊢
    exact this
  · rcases List.mem_or_eq_of_mem_set hx with h1 | h1
    · exact h.2 x h1
    · rw [h1]; exact hl
/-- a hash, stored at its place in a row of hashes -/
theorem wpList_store_hash {ops : Array Oper} {rest : List Oper} {o : Oper} {a : Act} {Q : Exit → Act → World → Prop} (hgd : o.guard = none) (ty : TypeId) (x y : Operand) (ho : o.op = .store ty x y)
    (g k : Nat) (hx : a.eval x = .pointer (some ⟨g, k * 32, none⟩)) (l : List UInt8) (hy : a.eval y = hv l) (hs : List (List UInt8)) (t : TypeId) (hg : HsBlk w g hs t) (hl : l.length = 32) (hk : k < hs.length)
    (hi : (P.info? ty).map (·.size) = some 32)
    (h : ∀ w', HsBlk w' g (hs.set k l) t → (∀ B, B ≤ g → Below B w w') → wpList P ops Q rest (a.put o.dst undef) w') : wpList P ops Q (o :: rest) a w :=
  wpList_plain hgd fun _ hK => by
    have hr := run_storeVar_part (P := P) (w := w) ty g (k * 32) (hc hs.flatten) t l hg.1 (by rw [hc_size, flatten_len hg.2, hl]; omega) (by rw [hl]; exact hi)
    unfold Oper.wp execOp
    simp only [ho, hx, hy, Instr.storeAt, Instr.sureAddr, Sem.run_bind, Sem.run_pure, Result.andThen_ok, hr]
    exact hK _ _ (h _ (hg.set k l hl hk) (fun B hB => (Below.refl B w).setRow hB _))
/-- make of hashes -/
theorem run_make_hashes (t e : TypeId) (i : TypeInfo) (ht : P.underlying t = some (.slice e)) (hi : P.info? e = some i) (hz : i.zero = some (hv zero32)) (h1 : i.size = 32) (h2 : i.bytes = 32) (n : Nat) (hn : n ≤ 1000000) (ni : Int) (hni : ni = n) (w : World) :
    (Instr.makeSlice t (.int .i64 ni) (.int .i64 ni)).run P w = .ok (.slice (some ⟨w.heap.size, 0, none⟩) n n) (w.alloc (.cells (hc (List.replicate n zero32).flatten) e)) := by
  subst hni
  have hr := run_make (P := P) w t e i (hv zero32) ht hi hz .i64 .i64 (n : Int) (n : Int) (by omega) (Int.le_refl _) (by rw [h2]; omega) (by omega)
  rw [hr, h1]
  have : madeCells (hv zero32).cells ((n : Int).toNat * 32) = hc (List.replicate n zero32).flatten := by
    have e1 : (List.replicate n zero32).flatten = List.replicate (n * 32) 0 := by
      unfold zero32; rw [List.flatten_replicate_replicate]
    have e2 : (hv zero32).cells = Array.replicate 32 (Value.int .u8 0) := rfl
    have e3 : hc (List.replicate (n * 32) 0) = Array.replicate (n * 32) (Value.int .u8 0) := by
      simp [hc, bcell]
    rw [e1, e2, e3]
    apply Array.ext
    · simp [madeCells]
    · intro j h1 h2
      have hj : j % 32 < 32 := Nat.mod_lt _ (by omega)
      simp [madeCells, hj]
  rw [this]; simp
end Go.Spec
