/- speculum/trees.Root$1, the closure of trees.Root -/
import Derived.Test.YtbpjlancjdbehaaDoorQSlices
import Derived.Test.YtbpjlancjdbehaaDoorQTreeLaw
import Derived.Test.YtbpjlancjdbehaaDoorQTreeNode
import Derived.Test.YtbpjlancjdbehaaDoorQTreeSplit
import Derived.Test.YtbpjlancjdbehaaDoorQZero

set_option maxRecDepth 100000
namespace Go.Proofs.YtbpjlancjdbehaaDoor
open Go.RowKit Go.Spec
def piece (hs : List (List UInt8)) (i j : Nat) : List (List UInt8) := (hs.drop i).take (j - i)
theorem piece_len (hs : List (List UInt8)) (i j : Nat) (h : j ≤ hs.length) : (piece hs i j).length = j - i := by
  unfold piece; rw [List.length_take, List.length_drop]; omega
theorem piece_take (hs : List (List UInt8)) (i j k : Nat) (h : i + k ≤ j) : (piece hs i j).take k = piece hs i (i + k) := by
  unfold piece; rw [List.take_take]; congr 1; omega
theorem piece_drop (hs : List (List UInt8)) (i j k : Nat) (_h : i + k ≤ j) : (piece hs i j).drop k = piece hs (i + k) j := by
  unfold piece; rw [List.drop_take, List.drop_drop]; congr 1; omega
theorem piece_all (hs : List (List UInt8)) : piece hs 0 hs.length = hs := by
  unfold piece; simp
theorem piece_mem {hs : List (List UInt8)} {i j : Nat} {x : List UInt8} (h : x ∈ piece hs i j) : x ∈ hs :=
  List.mem_of_mem_drop (List.mem_of_mem_take h)
theorem piece_one (hs : List (List UInt8)) (i : Nat) (h : i < hs.length) : piece hs i (i + 1) = [hs[i]] := by
  unfold piece
  rw [show i + 1 - i = 1 by omega, List.take_one]
  simp [h]
theorem Blk.cell1 {w : World} {g : Nat} {v : Value} {t : TypeId} (h : Blk w g #[v] t) : w.cell? ⟨g, 0, none⟩ = some v := h.cells 0 v rfl
/-- a variable of one cell, loaded -/
theorem wpList_load_one {P : Program} {w : World} {ops : Array Oper} {rest : List Oper} {o : Oper} {a : Act} {Q : Exit → Act → World → Prop} (hgd : o.guard = none) (ty : TypeId) (x : Operand) (ho : o.op = .load ty x)
    (ad : Addr) (hx : a.eval x = .pointer (some ad)) (v : Value) (d : TypeDesc) (hc : w.cell? ad = some v)
    (hu : P.underlying ty = some d) (hd : (match d with | .struct _ | .array _ _ => true | _ => false) = false)
    (h : wpList P ops Q rest (a.put o.dst v) w) : wpList P ops Q (o :: rest) a w := by
  have hagg : (isAgg ty).run P w = .ok false w := by
    unfold isAgg
    rw [Sem.run_bind, run_underlying hu w]
    cases d <;> simp_all
  have hl : (load ad).run P w = .ok v w := by
    show (Sem.load Mode.plain ad Sem.pure).run P w = _
    unfold Sem.run
    simp [hc, Sem.run, go_sem]
  exact wpList_plain hgd fun _ hK => by
    unfold Oper.wp execOp
    simp only [ho, hx, Instr.loadAt, Instr.sureAddr, Sem.run_bind, Sem.run_pure, Result.andThen_ok, loadVar, hagg, Bool.false_eq_true, if_false, hl]
    exact hK _ _ h
set_option maxHeartbeats 2000000 in
theorem rootc_one (hs : List (List UInt8)) (v f : Value) (gl gr i : Nat) (w : World) (hl : hs.length ≤ 1000000) (hi : i < hs.length) (hS : SlAt w 32 v (hcs hs)) (hL : Blk w gl #[v] 22) :
    Calls Tryd.prog 50 #[.int .i64 (i : Int), .int .i64 ((i + 1 : Nat) : Int), .pointer (some ⟨gl, 0, none⟩), .pointer (some ⟨gr, 0, none⟩)] w fun e w' => e = .returned (hv hs[i]) ∧ Below w.heap.size w w' := by
  obtain ⟨a, cap, rfl, hcap⟩ := hS.formH
  have HB : Below w.heap.size w (w.alloc (.cells (hc zero32) 29)) := (Below.refl _ w).alloc (Nat.le_refl _) _
  have hZ : Blk (w.alloc (.cells (hc zero32) 29)) w.heap.size (hc zero32) 29 := Blk.new _ _ _
  have hx : (hs[i]).length = 32 := hS.len32 _ (List.getElem_mem hi)
  have hS1 := hS.below HB (Nat.le_refl _)
  have hL1 := Blk.cell1 (hL.later HB)
  obtain ⟨b, o, rfl, hbl, hcl, hcell⟩ := hS1.at (i := i) (cs := (hs[i]).map bcell) (by simp [hcs, hi])
  clear hS hS1 hL
  have esub : ((i + 1 : Nat) : Int) - (i : Int) = 1 := by omega
  have Hsp := hid (fun w0 => split_small 1 w0 (by decide) (by decide))
  have hs3 := Tryd.sizeHash
  generalize hs[i] = x at *
  generalize i + 1 = j at *
  have Hs := hid (show (Tryd.prog.info? 29).map (·.size) = some (hc x).size by rw [hc_size, hx]; exact Tryd.sizeHash)
  have Hz := hid (show (hc x).size = (hc zero32).size by rw [hc_size, hx]; rfl)
  have Hsx := hid (show (Tryd.prog.info? 29).map (·.size) = some x.length by rw [hx]; exact Tryd.sizeHash)
  have Hcell := hid hcell
  clear hcell hcl
  go_enter Tryd.func50, Tryd.ntmps50
  go_wp2_with (first
    | (refine wpList_load_one rfl 22 _ rfl ⟨gl, 0, none⟩ rfl _ _ hL1 Tryd.underlying22 rfl ?_)
    | (go_at_call 45; refine (Hsp.out _).mono ?_; rintro e w1 ⟨rfl, rfl⟩)
    | (refine wpList_load_hc rfl 29 _ rfl ⟨b, o + i * 32, none⟩ rfl x _ Hcell.out Tryd.underlying29 rfl Hsx.out ?_)
    | (refine wpList_store_blk rfl 29 _ _ rfl w.heap.size rfl (hc x) rfl _ _ hZ Hz.out Hs.out (hc_row_one _) ?_))
  refine bodyPost_ret (results_cell_row rfl _ _ w.heap.size 29 _ (0, 0) _ rfl (hZ.setRow) Tryd.underlying29 rfl Hs.out) rfl ⟨rfl, ?_⟩
  exact HB.setRow (by omega) _
end Go.Proofs.YtbpjlancjdbehaaDoor
/- speculum/trees.Root$1: the long way -/
namespace Go.Proofs.YtbpjlancjdbehaaDoor
open Go.RowKit Go.Spec
abbrev rootFn (gl gr : Nat) : Value := .func (.func 50) #[] #[.pointer (some ⟨gl, 0, none⟩), .pointer (some ⟨gr, 0, none⟩)]
def RootCAt (hs : List (List UInt8)) (v : Value) (gl gr : Nat) (n : Nat) : Prop := ∀ (i j : Nat) (w : World), j - i ≤ n → i < j → j ≤ hs.length → ShaG w → SlAt w 32 v (hcs hs) →
    Blk w gl #[v] 22 → Blk w gr #[rootFn gl gr] 80 →
    Calls Tryd.prog 50 #[.int .i64 (i : Int), .int .i64 (j : Int), .pointer (some ⟨gl, 0, none⟩), .pointer (some ⟨gr, 0, none⟩)] w fun e w' => e = .returned (hv (rootL (piece hs i j))) ∧ Below w.heap.size w w'
set_option maxHeartbeats 2000000 in
theorem rootc_many (hs : List (List UInt8)) (v : Value) (gl gr n : Nat) (ih : RootCAt hs v gl gr n) (i j : Nat) (w : World) (hn : j - i ≤ n + 1) (hl : hs.length ≤ 1000000) (h2 : i + 2 ≤ j) (hj : j ≤ hs.length) (hG : ShaG w) (hS : SlAt w 32 v (hcs hs))
    (hL : Blk w gl #[v] 22) (hR : Blk w gr #[rootFn gl gr] 80) :
    Calls Tryd.prog 50 #[.int .i64 (i : Int), .int .i64 (j : Int), .pointer (some ⟨gl, 0, none⟩), .pointer (some ⟨gr, 0, none⟩)] w fun e w' => e = .returned (hv (rootL (piece hs i j))) ∧ Below w.heap.size w w' := by
  have HG := hid hG
  obtain ⟨hk0, hk1⟩ := splitN_in (j - i) (by omega)
  have plen := piece_len hs i j hj
  have Hroot := hid (rootL_many (piece hs i j) (by omega))
  rw [plen] at Hroot
  have HB : Below w.heap.size w (w.alloc (.cells (hc zero32) 29)) := (Below.refl _ w).alloc (Nat.le_refl _) _
  have hZ : Blk (w.alloc (.cells (hc zero32) 29)) w.heap.size (hc zero32) 29 := Blk.new _ _ _
  have Hsp := hid (fun w0 => split_big (j - i) w0 (by omega) (by omega))
  have esub : (j : Int) - (i : Int) = ((j - i : Nat) : Int) := by omega
  have h32 := hS.len32
  generalize splitN (j - i) = k at *
  rw [piece_take hs i j k (by omega), piece_drop hs i j k (by omega)] at Hroot
  have Hl := hid (And.intro (rootL_len _ (piece hs i (i + k)) (Nat.le_refl _) (fun x hx => h32 x (piece_mem hx))) (rootL_len _ (piece hs (i + k) j) (Nat.le_refl _) (fun x hx => h32 x (piece_mem hx))))
  have ih1 := ih i (i + k)
  have ih2 := ih (i + k) j
  generalize rootL (piece hs i (i + k)) = ra at *
  generalize rootL (piece hs (i + k) j) = rd at *
  generalize rootL (piece hs i j) = r at *
  have eadd : (i : Int) + (k : Int) = ((i + k : Nat) : Int) := by omega
  have e0 : ((k : Int) == 0) = false := beq_eq_false_iff_ne.mpr (by omega)
  have hjl : (j : Int) ≤ 1000000 := by omega
  generalize hm : i + k = m at *
  have ew : IntKind.i64.wrap ((m : Nat) : Int) = (m : Int) := IntWalk.i64_in _ (by omega)
  have Hs := hid (show (Tryd.prog.info? 29).map (·.size) = some (hc r).size by rw [hc_size, Hroot.out, nodeL_len]; exact Tryd.sizeHash)
  have Hz := hid (show (hc r).size = (hc zero32).size by rw [hc_size, Hroot.out, nodeL_len]; rfl)
  have hs3 := Tryd.sizeHash
  generalize hd : j - i = d at *
  go_enter Tryd.func50, Tryd.ntmps50
  go_wp2_with (go_at_call 45; refine (Hsp.out _).mono ?_; rintro e w1 ⟨rfl, rfl⟩)
  show (Code.region _ _ _).wp _ _ _ (w.alloc (.cells (hc zero32) 29))
  have hL0 := hL.later HB
  have hR0 := hR.later HB
  have hS0 := hS.below HB (Nat.le_refl _)
  have HG0 := HG.out.later HB
  generalize hw0 : w.alloc (.cells (hc zero32) 29) = w0 at *
  have hRc : ∀ x : Later w0, (lat x).cell? ⟨gr, 0, none⟩ = some (rootFn gl gr) := fun x => Blk.cell1 (hR0.later (lat_below x))
  have Hc1 := hid (fun x : Later w0 => ih1 (lat x) (by omega) (by omega) (by omega) (HG0.later (lat_below x)) (hS0.below (lat_below x) (Nat.le_refl _)) (hL0.later (lat_below x)) (hR0.later (lat_below x)))
  have Hc2 := hid (fun x : Later w0 => ih2 (lat x) (by omega) (by omega) (by omega) (HG0.later (lat_below x)) (hS0.below (lat_below x) (Nat.le_refl _)) (hL0.later (lat_below x)) (hR0.later (lat_below x)))
  have HG1 := hid HG0
  have HZ := hid hZ
  clear ih ih1 ih2 hL hR hL0 hR0 hS hS0 HG0 hG h32 hZ hw0
  refine wp_region_later_tail 13 (by kernel_rfl) (by kernel_rfl) ?_
  simp only [List.take_succ_cons, List.take_zero, List.drop_succ_cons, List.drop_zero]
  repeat (first
    | (refine wpQuiet_load_one rfl 80 _ rfl ⟨gr, 0, none⟩ rfl (rootFn gl gr) _ (by rintro _ ⟨q, rfl⟩; exact hRc q) Tryd.underlying80 rfl ?_; simp only [Act.put, List.setIfInBounds_toArray, List.set_cons_succ, List.set_cons_zero])
    | go_big_quiet_step ((first | (go_at_call 50; with_reducible exact calls_later (Hc1.out _)) | (go_at_call 50; with_reducible exact calls_later (Hc2.out _)) | (go_at_call 40; with_reducible exact calls_later (node_any ra rd _ Hl.out.1 Hl.out.2 (HG1.out.later (lat_below _)))))))
  refine wpQuiet_nil ?_
  rintro _ ⟨q1, rfl⟩
  have hb1 := lat_below q1
  generalize lat q1 = w1 at *
  rw [← Hroot.out]
  replace HZ := hid (HZ.out.later hb1)
  replace HB := bth HB hb1
  refine wpList_store_blk rfl 29 _ _ rfl w.heap.size rfl (hc r) rfl _ _ HZ.out Hz.out Hs.out (hc_row_one _) ?_
  refine wpList_nil ?_
  go_wp2
  refine bodyPost_ret (results_cell_row rfl _ _ w.heap.size 29 _ (0, 0) _ rfl (HZ.out.setRow) Tryd.underlying29 rfl Hs.out) rfl ⟨rfl, ?_⟩
  exact HB.setRow (by omega) _
theorem rootc_at (hs : List (List UInt8)) (v : Value) (gl gr : Nat) (hl : hs.length ≤ 1000000) (n : Nat) : RootCAt hs v gl gr n := by
  induction n with
  | zero => intro i j w hn hij; omega
  | succ n ih =>
    intro i j w hn hij hj hG hS hL hR
    by_cases h2 : i + 2 ≤ j
    · exact rootc_many hs v gl gr n ih i j w hn hl h2 hj hG hS hL hR
    · obtain rfl : j = i + 1 := by omega
      rw [piece_one hs i (by omega), rootL_one]
      exact rootc_one hs v (rootFn gl gr) gl gr i w hl (by omega) hS hL
theorem rootc_any (hs : List (List UInt8)) (v : Value) (gl gr : Nat) (w : World) (hl : hs.length ≤ 1000000) (h0 : 0 < hs.length) (hG : ShaG w) (hS : SlAt w 32 v (hcs hs))
    (hL : Blk w gl #[v] 22) (hR : Blk w gr #[rootFn gl gr] 80) :
    Calls Tryd.prog 50 #[.int .i64 0, .int .i64 (hs.length : Int), .pointer (some ⟨gl, 0, none⟩), .pointer (some ⟨gr, 0, none⟩)] w fun e w' => e = .returned (hv (rootL hs)) ∧ Below w.heap.size w w' := by
  have := rootc_at hs v gl gr hl hs.length 0 hs.length w (by omega) h0 (Nat.le_refl _) hG hS hL hR
  rw [piece_all] at this
  exact this
end Go.Proofs.YtbpjlancjdbehaaDoor
/- speculum/trees.Root -/
namespace Go.Proofs.YtbpjlancjdbehaaDoor
open Go.RowKit Go.Spec
set_option maxHeartbeats 2000000 in
theorem root_nil (v : Value) (w : World) (hG : ShaG w) (hS : SlAt w 32 v (hcs [])) :
    Calls Tryd.prog 25 #[v] w fun e w' => e = .returned (hv (sumL [])) ∧ Below w.heap.size w w' := by
  obtain ⟨a, cap, rfl, hcap⟩ := hS.formH
  clear hS
  rw [show ([] : List (List UInt8)).length = 0 from rfl]
  have HG := hid hG; clear hG
  have d0 : (((0 : Nat) : Int) == 0) = true := rfl
  have hs3 := Tryd.sizeHash
  have Hs := hid (show (Tryd.prog.info? 29).map (·.size) = some (hc (sumL [])).size by rw [hc_size, sumL_len]; exact Tryd.sizeHash)
  have Hz := hid (show (hc (sumL [])).size = (hc zero32).size by rw [hc_size, sumL_len]; rfl)
  have Hsum := hid (fun w0 (h0 : ShaG w0) => sum_any [] w0 (by decide) h0)
  generalize sumL [] = S at *
  have HB : Below w.heap.size w ((w.alloc (.cells #[.slice a 0 cap] 22)).alloc (.cells (hc zero32) 29)) := ((Below.refl _ w).alloc (Nat.le_refl _) _).alloc (by simp) _
  have hZ : Blk ((w.alloc (.cells #[.slice a 0 cap] 22)).alloc (.cells (hc zero32) 29)) (w.heap.size + 1) (hc zero32) 29 := Blk.new' _ _ _ (by simp)
  go_enter Tryd.func25, Tryd.ntmps25
  go_wp2_with (first
    | ((with_reducible show wpList _ _ _ ({ dst := _, op := Op.store _ _ _, type := _, pos := _, after := _, guard := _ } :: _) _ _); refine wpList_store_blk rfl 29 _ _ rfl (w.heap.size + 1) rfl (hc S) rfl _ _ (hZ.later hb1) Hz.out Hs.out (hc_row_one _) ?_)
    | (go_at_call 49; refine (Hsum.out _ (HG.out.later HB)).mono ?_; rintro e w1 ⟨rfl, hb1⟩))
  replace HB := bth HB hb1
  replace hZ := hZ.later hb1
  refine bodyPost_ret (results_cell_row rfl _ _ (w.heap.size + 1) 29 _ (0, 0) _ rfl (hZ.setRow) Tryd.underlying29 rfl Hs.out) rfl ⟨rfl, ?_⟩
  exact HB.setRow (by omega) _
set_option maxHeartbeats 2000000 in
theorem root_some (hs : List (List UInt8)) (v : Value) (w : World) (h0 : 0 < hs.length) (hl : hs.length ≤ 1000000) (hG : ShaG w) (hS : SlAt w 32 v (hcs hs)) :
    Calls Tryd.prog 25 #[v] w fun e w' => e = .returned (hv (rootL hs)) ∧ Below w.heap.size w w' := by
  obtain ⟨a, cap, rfl, hcap⟩ := hS.formH
  have HG := hid hG; clear hG
  have hlen := rootL_len _ hs (Nat.le_refl _) hS.len32
  have d0 : ((hs.length : Int) == 0) = false := beq_eq_false_iff_ne.mpr (by omega)
  have hs3 := Tryd.sizeHash
  have Hs := hid (show (Tryd.prog.info? 29).map (·.size) = some (hc (rootL hs)).size by rw [hc_size, hlen]; exact Tryd.sizeHash)
  have Hz := hid (show (hc (rootL hs)).size = (hc zero32).size by rw [hc_size, hlen]; rfl)
  have Hroot := hid (fun w0 gl gr h1 h2 h3 h4 => rootc_any hs (.slice a hs.length cap) gl gr w0 hl h0 h1 h2 h3 h4)
  have H53 := hid (show (Tryd.prog.info? 80).map (·.size) = some 1 by kernel_rfl)
  clear hlen
  have HW : Hid (∀ cs cs' : Array Value, (((w.alloc (.cells #[.slice a hs.length cap] 22)).alloc (.cells (hc zero32) 29)).alloc (.cells cs 80)).setRow (w.heap.size + 1 + 1) cs' = ((w.alloc (.cells #[.slice a hs.length cap] 22)).alloc (.cells (hc zero32) 29)).alloc (.cells cs' 80)) := hid (by
    intro cs cs'
    have := setRow_alloc ((w.alloc (.cells #[.slice a hs.length cap] 22)).alloc (.cells (hc zero32) 29)) cs cs' 80 (0, 0)
    rw [← this]; congr 1; simp)
  have HB1 : Below w.heap.size w ((w.alloc (.cells #[.slice a hs.length cap] 22)).alloc (.cells (hc zero32) 29)) := ((Below.refl _ w).alloc (Nat.le_refl _) _).alloc (by simp) _
  have HB := HB1.alloc HB1.size (.cells #[rootFn w.heap.size (w.heap.size + 1 + 1)] 80)
  have hLx : Blk (((w.alloc (.cells #[.slice a hs.length cap] 22)).alloc (.cells (hc zero32) 29)).alloc (.cells #[rootFn w.heap.size (w.heap.size + 1 + 1)] 80)) w.heap.size #[.slice a hs.length cap] 22 := ((Blk.new _ _ _).alloc _).alloc _
  have hZ : Blk (((w.alloc (.cells #[.slice a hs.length cap] 22)).alloc (.cells (hc zero32) 29)).alloc (.cells #[rootFn w.heap.size (w.heap.size + 1 + 1)] 80)) (w.heap.size + 1) (hc zero32) 29 := (Blk.new' _ _ _ (by simp)).alloc _
  have hR : Blk (((w.alloc (.cells #[.slice a hs.length cap] 22)).alloc (.cells (hc zero32) 29)).alloc (.cells #[rootFn w.heap.size (w.heap.size + 1 + 1)] 80)) (w.heap.size + 1 + 1) #[rootFn w.heap.size (w.heap.size + 1 + 1)] 80 := Blk.new' _ _ _ (by simp)
  have hSx := hS.below HB (Nat.le_refl _)
  have HL := hid hLx; have HZ := hid hZ; have HR := hid hR; have HS := hid hSx
  clear hLx hZ hR hSx hS HB1
  go_enter Tryd.func25, Tryd.ntmps25
  go_wp2_with (first
    | (refine wpList_load_one rfl 22 _ rfl ⟨w.heap.size, 0, none⟩ rfl _ _ (Blk.cell1 HL.out) Tryd.underlying22 rfl ?_)
    | (refine wpList_load_one rfl 80 _ rfl ⟨w.heap.size + 1 + 1, 0, none⟩ rfl _ _ (Blk.cell1 HR.out) Tryd.underlying80 rfl ?_)
    | ((with_reducible show wpList _ _ _ ({ dst := _, op := Op.store 80 _ _, type := _, pos := _, after := _, guard := _ } :: _) _ _); refine wpList_store_oneW rfl 80 _ _ rfl (w.heap.size + 1 + 1) rfl (rootFn w.heap.size (w.heap.size + 1 + 1)) rfl _ 80 (Blk.new' _ _ _ (by simp)) H53.out rfl rfl _ (HW.out _ _) ?_)
    | ((with_reducible show wpList _ _ _ ({ dst := _, op := Op.store 29 _ _, type := _, pos := _, after := _, guard := _ } :: _) _ _); refine wpList_store_blk rfl 29 _ _ rfl (w.heap.size + 1) rfl (hc (rootL hs)) rfl _ _ (HZ.out.later hb1) Hz.out Hs.out (hc_row_one _) ?_)
    | (go_at_call 50; refine (Hroot.out _ _ _ (HG.out.later HB) HS.out HL.out HR.out).mono ?_; rintro e w1 ⟨rfl, hb1⟩))
  replace HB := bth HB hb1
  have hZ := HZ.out.later hb1
  refine bodyPost_ret (results_cell_row rfl _ _ (w.heap.size + 1) 29 _ (0, 0) _ rfl (hZ.setRow) Tryd.underlying29 rfl Hs.out) rfl ⟨rfl, ?_⟩
  exact HB.setRow (by omega) _
theorem root_any (hs : List (List UInt8)) (v : Value) (w : World) (hl : hs.length ≤ 1000000) (hG : ShaG w) (hS : SlAt w 32 v (hcs hs)) :
    Calls Tryd.prog 25 #[v] w fun e w' => e = .returned (hv (rootL hs)) ∧ Below w.heap.size w w' := by
  match hs, hl, hS with
  | [], _, hS => exact root_nil v w hG hS
  | x :: l, hl, hS => exact root_some _ v w (by simp) hl hG hS
end Go.Proofs.YtbpjlancjdbehaaDoor
