/- A slice of hashes, written out ([]api.Hash{a, b, c}); also where the operation is guarded. -/
import Derived.Test.YtbpjlancjdbehaaDoorQBase

set_option maxRecDepth 100000
namespace Go.Spec
open Go.RowKit
variable {P : Program} {w : World}
theorem fold_set_at (off : Nat) : ∀ (l : List Value) (k : Nat) (arr : Array Value), off + k + l.length ≤ arr.size →
    ((l.zipIdx k).foldl (fun (cs : Array Value) (x : Value × Nat) => cs.setIfInBounds (off + x.2) x.1) arr).toList = arr.toList.take (off + k) ++ l ++ arr.toList.drop (off + k + l.length)
  | [], k, arr, h => by simp
  | v :: l, k, arr, h => by
    simp only [List.zipIdx_cons, List.foldl_cons]
    simp only [List.length_cons] at h ⊢
    rw [fold_set_at off l (k + 1) _ (by simp; omega)]
    rw [Array.toList_setIfInBounds, show off + (k + 1) = off + k + 1 by omega, List.take_add_one, List.getElem?_set_self (by simp; omega), List.drop_set_of_lt (by omega), List.take_set_of_le (Nat.le_refl _)]
    simp only [Option.toList_some, List.append_assoc, List.cons_append, List.nil_append, show off + k + 1 + l.length = off + k + (l.length + 1) by omega]
theorem fill_hs : ∀ (hs : List (List UInt8)) (k : Nat) (arr : Array Value), (∀ x ∈ hs, x.length = 32) → (k + hs.length) * 32 ≤ arr.size →
    Instr.fill (fun i => some (i * 32, 32)) arr ((hs.zipIdx k).map fun q => (q.2, hv q.1)) = some (arr.toList.take (k * 32) ++ hflat hs ++ arr.toList.drop ((k + hs.length) * 32)).toArray
  | [], k, arr, _, h => by
    simp [Instr.fill, hflat]
  | x :: hs, k, arr, h32, h => by
    have hx := h32 x List.mem_cons_self
    have hl : (hv x).cells.size = 32 := by show (hc x).size = 32; rw [hc_size, hx]
    simp only [List.length_cons] at h
    have hn : ((hv x).cells.size ≠ 32 || decide (k * 32 + (hv x).cells.size > arr.size)) = false := by simp [hl]; omega
    rw [List.zipIdx_cons, List.map_cons]
    unfold Instr.fill
    dsimp only
    rw [if_neg (by rw [hn]; simp)]
    have he : (Array.foldl (fun (cs : Array Value) (x : Value × Nat) => cs.setIfInBounds (k * 32 + x.2) x.1) arr (hv x).cells.zipIdx).toList = arr.toList.take (k * 32) ++ x.map bcell ++ arr.toList.drop (k * 32 + 32) := by
      rw [← Array.foldl_toList, Array.toList_zipIdx, show (hv x).cells.toList = x.map bcell from hc_toList x, fold_set_at _ _ _ _ (by simp [hx]; omega)]
      simp [hx]
    generalize hq : Array.foldl (fun (cs : Array Value) (x : Value × Nat) => cs.setIfInBounds (k * 32 + x.2) x.1) arr (hv x).cells.zipIdx = arr2 at he
    have hs2 : arr2.size = arr.size := by
      rw [← Array.length_toList, he]
      simp [hx]; omega
    rw [fill_hs hs (k + 1) arr2 (fun y hy => h32 y (List.mem_cons_of_mem _ hy)) (by rw [hs2]; omega), he]
    congr 2
    rw [show (k + 1) * 32 = (arr.toList.take (k * 32) ++ x.map bcell).length by simp [hx]; omega]
    rw [List.take_append_of_le_length (Nat.le_refl _), List.take_of_length_le (Nat.le_refl _)]
    rw [show (k + 1 + hs.length) * 32 = (arr.toList.take (k * 32) ++ x.map bcell).length + hs.length * 32 by simp [hx]; omega, List.drop_length_add_append, List.drop_drop]
    rw [show k * 32 + 32 + hs.length * 32 = (k + (hs.length + 1)) * 32 by omega]
    unfold hflat
    simp
theorem run_buildSlice_hs (t elem : TypeId) (z : Value) (n : Nat) (hs : List (List UInt8)) (parts : Array (Nat × Value)) (hp : parts.toList = (hs.zipIdx 0).map fun q => (q.2, hv q.1)) (hn : hs.length = n) (h0 : 0 < n) (h1 : n ≤ 1000) (h32 : ∀ x ∈ hs, x.length = 32)
    (ht : P.underlying t = some (.slice elem)) (hi : (P.info? elem).map (fun i => (i.zero, i.size)) = some (some z, 32)) :
    (Instr.buildSlice t n parts).run P w = .ok (.slice (some ⟨w.heap.size, 0, none⟩) n n) (w.alloc (.cells (hflat hs).toArray elem)) := by
  cases hq : P.info? elem with
  | none => simp [hq] at hi
  | some i =>
    obtain ⟨hz, hsz⟩ : i.zero = some z ∧ i.size = 32 := by simpa [hq] using hi
    have hf := fill_hs hs 0 ((Array.range (n * 32)).map (z.cells[· % z.cells.size]!)) h32 (by simp; omega)
    rw [← hp] at hf
    have hx : ((Array.range (n * 32)).map (z.cells[· % z.cells.size]!)).toList.drop ((0 + hs.length) * 32) = [] := List.drop_eq_nil_of_le (by simp; omega)
    rw [hx, Nat.zero_mul, List.take_zero, List.nil_append, List.append_nil] at hf
    have g0 : ¬ (n * 32 > 2 ^ 24) := by omega
    have g1 : ¬ (n * 32 = 0) := by omega
    simp only [Instr.buildSlice, Sem.run_bind, run_underlying ht, Result.andThen_ok, sizeOf, typeInfo, run_program, hq, hsz, Sem.run_pure, if_neg g0, if_neg g1, zeroValue, hz, hf]
    rfl
theorem wpList_buildSlice_hs {ops : Array Oper} {rest : List Oper} {o : Oper} {a : Act} {Q : Exit → Act → World → Prop} (hw : Region.wanted o (yielded ops a.tmps) = true) (t elem : TypeId) (n : Nat) (xs : Array (Nat × Operand)) (ho : o.op = .buildSlice t n xs)
    (z : Value) (hs : List (List UInt8)) (hp : (xs.map fun (i, x) => (i, a.eval x)).toList = (hs.zipIdx 0).map fun q => (q.2, hv q.1)) (hn : hs.length = n) (h0 : 0 < n) (h1 : n ≤ 1000) (h32 : ∀ x ∈ hs, x.length = 32)
    (ht : P.underlying t = some (.slice elem)) (hi : (P.info? elem).map (fun i => (i.zero, i.size)) = some (some z, 32))
    (h : ∀ w', Blk w' w.heap.size (hflat hs).toArray elem → Below w.heap.size w w' → wpList P ops Q rest (a.put o.dst (.slice (some ⟨w.heap.size, 0, none⟩) n n)) w') : wpList P ops Q (o :: rest) a w :=
  wpList_want hw fun _ hK => by
    have hr := run_buildSlice_hs (P := P) (w := w) t elem z n hs _ hp hn h0 h1 h32 ht hi
    unfold Oper.wp execOp
    simp only [ho, hr, Sem.run_bind, Sem.run_pure, Result.andThen_ok]
    exact hK _ _ (h _ (Blk.new _ _ _) ((Below.refl _ w).alloc (Nat.le_refl _) _))
/-- what is written out, as a slice of hashes -/
theorem Blk.slh {g n : Nat} {hs : List (List UInt8)} {t : TypeId} (h : Blk w g (hflat hs).toArray t) (hn : hs.length = n) (h32 : ∀ x ∈ hs, x.length = 32) (hm : n ≤ maxLen) : SlAt w 32 (.slice (some ⟨g, 0, none⟩) n n) (hcs hs) := by
  subst hn
  refine SlAt.of_owns (size := 32) (base := 0) (e := t) ?_ h32
  have hfl : (hflat hs).length = hs.length * 32 := by unfold hflat; rw [List.length_map, flatten_len h32]
  have := Blk.owns h (base := 0) (size := 32) (n := hs.length) (Nat.zero_le _) hm (by rw [List.size_toArray]; exact hfl)
  rwa [List.toList_toArray] at this
end Go.Spec
