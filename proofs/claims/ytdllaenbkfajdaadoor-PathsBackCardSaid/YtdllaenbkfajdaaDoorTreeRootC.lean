/- speculum/trees.Root$1, the closure of trees.Root -/
import Derived.Test.YtdllaenbkfajdaaDoorTreeLaw
import Derived.Test.YtdllaenbkfajdaaDoorTreeNode
import Derived.Test.YtdllaenbkfajdaaDoorTreeSplit
import Derived.Test.YtdllaenbkfajdaaDoorSlices
set_option maxRecDepth 100000
namespace Go.Proofs.YtdllaenbkfajdaaDoor
open Go.RowKit Go.Spec
def piece (hs : List (List UInt8)) (i j : Nat) : List (List UInt8) := (hs.drop i).take (j - i)
theorem piece_len (hs : List (List UInt8)) (i j : Nat) (h : j ≤ hs.length) : (piece hs i j).length = j - i := by
  unfold piece; rw [List.length_take, List.length_drop]; omega
theorem piece_take (hs : List (List UInt8)) (i j k : Nat) (h : i + k ≤ j) : (piece hs i j).take k = piece hs i (i + k) := by
  unfold piece; rw [List.take_take]; congr 1; omega
theorem piece_drop (hs : List (List UInt8)) (i j k : Nat) (_h : i + k ≤ j) : (piece hs i j).drop k = piece hs (i + k) j := by
  unfold piece; rw [List.drop_take, List.drop_drop]; congr 1; omega
theorem piece_all (hs : List (List UInt8)) : piece hs 0 hs.length = hs := by
  unfold piece; simp
theorem piece_mem {hs : List (List UInt8)} {i j : Nat} {x : List UInt8} (h : x ∈ piece hs i j) : x ∈ hs :=
  List.mem_of_mem_drop (List.mem_of_mem_take h)
theorem piece_one (hs : List (List UInt8)) (i : Nat) (h : i < hs.length) : piece hs i (i + 1) = [hs[i]] := by
  unfold piece
  rw [show i + 1 - i = 1 by omega, List.take_one]
  simp [h]
theorem Blk.cell1 {w : World} {g : Nat} {v : Value} {t : TypeId} (h : Blk w g #[v] t) : w.cell? ⟨g, 0, none⟩ = some v := h.cells 0 v rfl
/-- a variable of one cell, loaded -/
theorem wpList_load_one {P : Program} {w : World} {ops : Array Oper} {rest : List Oper} {o : Oper} {a : Act} {Q : Exit → Act → World → Prop} (hgd : o.guard = none) (ty : TypeId) (x : Operand) (ho : o.op = .load ty x)
    (ad : Addr) (hx : a.eval x = .pointer (some ad)) (v : Value) (d : TypeDesc) (hc : w.cell? ad = some v)
    (hu : P.underlying ty = some d) (hd : (match d with | .struct _ | .array _ _ => true | _ => false) = false)
    (h : wpList P ops Q rest (a.put o.dst v) w) : wpList P ops Q (o :: rest) a w := by
  have hagg : (isAgg ty).run P w = .ok false w := by
    unfold isAgg
    rw [Sem.run_bind, run_underlying hu w]
    cases d <;> simp_all
  have hl : (load ad).run P w = .ok v w := by
    show (Sem.load Mode.plain ad Sem.pure).run P w = _
    unfold Sem.run
    simp [hc, Sem.run, go_sem]
  exact wpList_plain hgd fun _ hK => by
    unfold Oper.wp execOp
    simp only [ho, hx, Instr.loadAt, Instr.sureAddr, Sem.run_bind, Sem.run_pure, Result.andThen_ok, loadVar, hagg, Bool.false_eq_true, if_false, hl]
    exact hK _ _ h
set_option maxHeartbeats 2000000 in
theorem rootc_one (hs : List (List UInt8)) (v f : Value) (gl gr i : Nat) (w : World) (hl : hs.length ≤ 1000000) (hi : i < hs.length) (hS : SlAt w 32 v (hcs hs)) (hL : Blk w gl #[v] 22) :
    Calls Tryd.prog 35 #[.int .i64 (i : Int), .int .i64 ((i + 1 : Nat) : Int), .pointer (some ⟨gl, 0, none⟩), .pointer (some ⟨gr, 0, none⟩)] w fun e w' => e = .returned (hv hs[i]) ∧ Below w.heap.size w w' := by
  obtain ⟨a, cap, rfl, hcap⟩ := hS.formH
  have HB : Below w.heap.size w (w.alloc (.cells (hc zero32) 25)) := (Below.refl _ w).alloc (Nat.le_refl _) _
  have hZ : Blk (w.alloc (.cells (hc zero32) 25)) w.heap.size (hc zero32) 25 := Blk.new _ _ _
  have hx : (hs[i]).length = 32 := hS.len32 _ (List.getElem_mem hi)
  have hS1 := hS.below HB (Nat.le_refl _)
  have hL1 := Blk.cell1 (hL.later HB)
  obtain ⟨b, o, rfl, hbl, hcl, hcell⟩ := hS1.at (i := i) (cs := (hs[i]).map bcell) (by simp [hcs, hi])
  clear hS hS1 hL
  have esub : ((i + 1 : Nat) : Int) - (i : Int) = 1 := by omega
  have Hsp := hid (fun w0 => split_small 1 w0 (by decide) (by decide))
  have hs3 := Tryd.sizeHash
  generalize hs[i] = x at *
  generalize i + 1 = j at *
  have Hs := hid (show (Tryd.prog.info? 25).map (·.size) = some (hc x).size by rw [hc_size, hx]; exact Tryd.sizeHash)
  have Hz := hid (show (hc x).size = (hc zero32).size by rw [hc_size, hx]; rfl)
  have Hsx := hid (show (Tryd.prog.info? 25).map (·.size) = some x.length by rw [hx]; exact Tryd.sizeHash)
  have Hcell := hid hcell
  clear hcell hcl
  go_enter Tryd.func35, Tryd.ntmps35
  go_wp2_with (first
    | (refine wpList_load_one rfl 22 _ rfl ⟨gl, 0, none⟩ rfl _ _ hL1 Tryd.underlying22 rfl ?_)
    | (go_at_call 17; refine (Hsp.out _).mono ?_; rintro e w1 ⟨rfl, rfl⟩)
    | (refine wpList_load_hc rfl 25 _ rfl ⟨b, o + i * 32, none⟩ rfl x _ Hcell.out Tryd.underlying25 rfl Hsx.out ?_)
    | (refine wpList_store_blk rfl 25 _ _ rfl w.heap.size rfl (hc x) rfl _ _ hZ Hz.out Hs.out (hc_row_one _) ?_))
  refine bodyPost_ret (results_cell_row rfl _ _ w.heap.size 25 _ (0, 0) _ rfl (hZ.setRow) Tryd.underlying25 rfl Hs.out) rfl ⟨rfl, ?_⟩
  exact HB.setRow (by omega) _
end Go.Proofs.YtdllaenbkfajdaaDoor
