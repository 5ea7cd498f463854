/- pieces of slices of hashes -/
import Derived.Test.YtbpjlancjdbehaaDoorQAnyOp
import Derived.Test.YtbpjlancjdbehaaDoorQBase
import Derived.Test.YtbpjlancjdbehaaDoorQPathRev
import Derived.Test.YtbpjlancjdbehaaDoorQShaLaid
import Derived.Test.YtbpjlancjdbehaaDoorQShaRefSum
import Derived.Test.YtbpjlancjdbehaaDoorQTreeSplit

set_option maxRecDepth 100000
namespace Go.Spec
open Go.RowKit
variable {w : World}
theorem SlAt.takeS {size : Nat} {a : Option Addr} {n cap : Nat} {css : List (List Value)} (h : SlAt w size (.slice a n cap) css) (k : Nat) (hk : k ≤ css.length) : SlAt w size (.slice a k cap) (css.take k) := by
  obtain ⟨a', cap', hv, hc, hs, hcell⟩ := h
  injection hv with e1 e2 e3
  subst e1; subst e3
  have hl : (css.take k).length = k := by rw [List.length_take]; omega
  refine ⟨a, cap, by rw [hl], by rw [hl]; omega, fun cs h => hs cs (List.mem_of_mem_take h), fun i cs hi => ?_⟩
  have hik : i < k := by
    have := (List.getElem?_eq_some_iff.1 hi).1
    rw [hl] at this; exact this
  rw [List.getElem?_take_of_lt hik] at hi
  exact hcell i cs hi
theorem SlAt.dropS {size : Nat} {b o : Nat} {n cap : Nat} {css : List (List Value)} (h : SlAt w size (.slice (some ⟨b, o, none⟩) n cap) css) (k : Nat) (hk : k < css.length) : SlAt w size (.slice (some ⟨b, o + k * size, none⟩) (n - k) (cap - k)) (css.drop k) := by
  obtain ⟨a', cap', hv, hc, hs, hcell⟩ := h
  injection hv with e1 e2 e3
  subst e1; subst e3
  have hl : (css.drop k).length = n - k := by rw [List.length_drop]; omega
  refine ⟨_, cap - k, by rw [hl], by rw [hl]; omega, fun cs h => hs cs (List.mem_of_mem_drop h), fun i cs hi => ?_⟩
  rw [List.getElem?_drop] at hi
  obtain ⟨b', o', e, hlt, hc2⟩ := hcell (k + i) cs hi
  injection e with e
  injection e with e4 e5
  subst e4; subst e5
  refine ⟨b, o + k * size, rfl, hlt, fun j u hj => ?_⟩
  have := hc2 j u hj
  rw [show o + k * size + i * size + j = o + (k + i) * size + j by rw [Nat.add_mul]; omega]
  exact this
theorem SlAt.addr {size : Nat} {a : Option Addr} {n cap : Nat} {css : List (List Value)} (h : SlAt w size (.slice a n cap) css) (h0 : 0 < css.length) : ∃ b o, a = some ⟨b, o, none⟩ ∧ b < w.heap.size := by
  obtain ⟨a', cap', hv, hc, hs, hcell⟩ := h
  injection hv with e1 e2 e3
  subst e1
  obtain ⟨b, o, e, hlt, _⟩ := hcell 0 css[0] (List.getElem?_eq_getElem h0)
  exact ⟨b, o, e, hlt⟩
end Go.Spec
/- speculum/trees.Root$1, the closure of trees.Root -/
namespace Go.Proofs.YtbpjlancjdbehaaDoor
open Go.RowKit Go.Spec
def piece (hs : List (List UInt8)) (i j : Nat) : List (List UInt8) := (hs.drop i).take (j - i)
theorem piece_len (hs : List (List UInt8)) (i j : Nat) (h : j ≤ hs.length) : (piece hs i j).length = j - i := by
  unfold piece; rw [List.length_take, List.length_drop]; omega
theorem piece_take (hs : List (List UInt8)) (i j k : Nat) (h : i + k ≤ j) : (piece hs i j).take k = piece hs i (i + k) := by
  unfold piece; rw [List.take_take]; congr 1; omega
theorem piece_drop (hs : List (List UInt8)) (i j k : Nat) (_h : i + k ≤ j) : (piece hs i j).drop k = piece hs (i + k) j := by
  unfold piece; rw [List.drop_take, List.drop_drop]; congr 1; omega
theorem piece_all (hs : List (List UInt8)) : piece hs 0 hs.length = hs := by
  unfold piece; simp
theorem piece_mem {hs : List (List UInt8)} {i j : Nat} {x : List UInt8} (h : x ∈ piece hs i j) : x ∈ hs :=
  List.mem_of_mem_drop (List.mem_of_mem_take h)
theorem piece_one (hs : List (List UInt8)) (i : Nat) (h : i < hs.length) : piece hs i (i + 1) = [hs[i]] := by
  unfold piece
  rw [show i + 1 - i = 1 by omega, List.take_one]
  simp [h]
theorem Blk.cell1 {w : World} {g : Nat} {v : Value} {t : TypeId} (h : Blk w g #[v] t) : w.cell? ⟨g, 0, none⟩ = some v := h.cells 0 v rfl
/-- a variable of one cell, loaded -/
theorem wpList_load_one {P : Program} {w : World} {ops : Array Oper} {rest : List Oper} {o : Oper} {a : Act} {Q : Exit → Act → World → Prop} (hgd : o.guard = none) (ty : TypeId) (x : Operand) (ho : o.op = .load ty x)
    (ad : Addr) (hx : a.eval x = .pointer (some ad)) (v : Value) (d : TypeDesc) (hc : w.cell? ad = some v)
    (hu : P.underlying ty = some d) (hd : (match d with | .struct _ | .array _ _ => true | _ => false) = false)
    (h : wpList P ops Q rest (a.put o.dst v) w) : wpList P ops Q (o :: rest) a w := by
  have hagg : (isAgg ty).run P w = .ok false w := by
    unfold isAgg
    rw [Sem.run_bind, run_underlying hu w]
    cases d <;> simp_all
  have hl : (load ad).run P w = .ok v w := by
    show (Sem.load Mode.plain ad Sem.pure).run P w = _
    unfold Sem.run
    simp [hc, Sem.run, go_sem]
  exact wpList_plain hgd fun _ hK => by
    unfold Oper.wp execOp
    simp only [ho, hx, Instr.loadAt, Instr.sureAddr, Sem.run_bind, Sem.run_pure, Result.andThen_ok, loadVar, hagg, Bool.false_eq_true, if_false, hl]
    exact hK _ _ h
set_option maxHeartbeats 2000000 in
theorem rootc_one (hs : List (List UInt8)) (v f : Value) (gl gr i : Nat) (w : World) (hl : hs.length ≤ 1000000) (hi : i < hs.length) (hS : SlAt w 32 v (hcs hs)) (hL : Blk w gl #[v] 22) :
    Calls Tryd.prog 50 #[.int .i64 (i : Int), .int .i64 ((i + 1 : Nat) : Int), .pointer (some ⟨gl, 0, none⟩), .pointer (some ⟨gr, 0, none⟩)] w fun e w' => e = .returned (hv hs[i]) ∧ Below w.heap.size w w' := by
  obtain ⟨a, cap, rfl, hcap⟩ := hS.formH
  have HB : Below w.heap.size w (w.alloc (.cells (hc zero32) 29)) := (Below.refl _ w).alloc (Nat.le_refl _) _
  have hZ : Blk (w.alloc (.cells (hc zero32) 29)) w.heap.size (hc zero32) 29 := Blk.new _ _ _
  have hx : (hs[i]).length = 32 := hS.len32 _ (List.getElem_mem hi)
  have hS1 := hS.below HB (Nat.le_refl _)
  have hL1 := Blk.cell1 (hL.later HB)
  obtain ⟨b, o, rfl, hbl, hcl, hcell⟩ := hS1.at (i := i) (cs := (hs[i]).map bcell) (by simp [hcs, hi])
  clear hS hS1 hL
  have esub : ((i + 1 : Nat) : Int) - (i : Int) = 1 := by omega
  have Hsp := hid (fun w0 => split_small 1 w0 (by decide) (by decide))
  have hs3 := Tryd.sizeHash
  generalize hs[i] = x at *
  generalize i + 1 = j at *
  have Hs := hid (show (Tryd.prog.info? 29).map (·.size) = some (hc x).size by rw [hc_size, hx]; exact Tryd.sizeHash)
  have Hz := hid (show (hc x).size = (hc zero32).size by rw [hc_size, hx]; rfl)
  have Hsx := hid (show (Tryd.prog.info? 29).map (·.size) = some x.length by rw [hx]; exact Tryd.sizeHash)
  have Hcell := hid hcell
  clear hcell hcl
  go_enter Tryd.func50, Tryd.ntmps50
  go_wp2_with (first
    | (refine wpList_load_one rfl 22 _ rfl ⟨gl, 0, none⟩ rfl _ _ hL1 Tryd.underlying22 rfl ?_)
    | (go_at_call 45; refine (Hsp.out _).mono ?_; rintro e w1 ⟨rfl, rfl⟩)
    | (refine wpList_load_hc rfl 29 _ rfl ⟨b, o + i * 32, none⟩ rfl x _ Hcell.out Tryd.underlying29 rfl Hsx.out ?_)
    | (refine wpList_store_blk rfl 29 _ _ rfl w.heap.size rfl (hc x) rfl _ _ hZ Hz.out Hs.out (hc_row_one _) ?_))
  refine bodyPost_ret (results_cell_row rfl _ _ w.heap.size 29 _ (0, 0) _ rfl (hZ.setRow) Tryd.underlying29 rfl Hs.out) rfl ⟨rfl, ?_⟩
  exact HB.setRow (by omega) _
end Go.Proofs.YtbpjlancjdbehaaDoor
/- speculum/trees.Root$1: the long way -/
namespace Go.Proofs.YtbpjlancjdbehaaDoor
open Go.RowKit Go.Spec
abbrev rootFn (gl gr : Nat) : Value := .func (.func 50) #[] #[.pointer (some ⟨gl, 0, none⟩), .pointer (some ⟨gr, 0, none⟩)]
def RootCAt (hs : List (List UInt8)) (v : Value) (gl gr : Nat) (n : Nat) : Prop := ∀ (i j : Nat) (w : World), j - i ≤ n → i < j → j ≤ hs.length → ShaG w → SlAt w 32 v (hcs hs) →
    Blk w gl #[v] 22 → Blk w gr #[rootFn gl gr] 80 →
    Calls Tryd.prog 50 #[.int .i64 (i : Int), .int .i64 (j : Int), .pointer (some ⟨gl, 0, none⟩), .pointer (some ⟨gr, 0, none⟩)] w fun e w' => e = .returned (hv (rootL (piece hs i j))) ∧ Below w.heap.size w w'
set_option maxHeartbeats 2000000 in
theorem rootc_many (hs : List (List UInt8)) (v : Value) (gl gr n : Nat) (ih : RootCAt hs v gl gr n) (i j : Nat) (w : World) (hn : j - i ≤ n + 1) (hl : hs.length ≤ 1000000) (h2 : i + 2 ≤ j) (hj : j ≤ hs.length) (hG : ShaG w) (hS : SlAt w 32 v (hcs hs))
    (hL : Blk w gl #[v] 22) (hR : Blk w gr #[rootFn gl gr] 80) :
    Calls Tryd.prog 50 #[.int .i64 (i : Int), .int .i64 (j : Int), .pointer (some ⟨gl, 0, none⟩), .pointer (some ⟨gr, 0, none⟩)] w fun e w' => e = .returned (hv (rootL (piece hs i j))) ∧ Below w.heap.size w w' := by
  have HG := hid hG
  obtain ⟨hk0, hk1⟩ := splitN_in (j - i) (by omega)
  have plen := piece_len hs i j hj
  have Hroot := hid (rootL_many (piece hs i j) (by omega))
  rw [plen] at Hroot
  have HB : Below w.heap.size w (w.alloc (.cells (hc zero32) 29)) := (Below.refl _ w).alloc (Nat.le_refl _) _
  have hZ : Blk (w.alloc (.cells (hc zero32) 29)) w.heap.size (hc zero32) 29 := Blk.new _ _ _
  have Hsp := hid (fun w0 => split_big (j - i) w0 (by omega) (by omega))
  have esub : (j : Int) - (i : Int) = ((j - i : Nat) : Int) := by omega
  have h32 := hS.len32
  generalize splitN (j - i) = k at *
  rw [piece_take hs i j k (by omega), piece_drop hs i j k (by omega)] at Hroot
  have Hl := hid (And.intro (rootL_len _ (piece hs i (i + k)) (Nat.le_refl _) (fun x hx => h32 x (piece_mem hx))) (rootL_len _ (piece hs (i + k) j) (Nat.le_refl _) (fun x hx => h32 x (piece_mem hx))))
  have ih1 := ih i (i + k)
  have ih2 := ih (i + k) j
  generalize rootL (piece hs i (i + k)) = ra at *
  generalize rootL (piece hs (i + k) j) = rd at *
  generalize rootL (piece hs i j) = r at *
  have eadd : (i : Int) + (k : Int) = ((i + k : Nat) : Int) := by omega
  have e0 : ((k : Int) == 0) = false := beq_eq_false_iff_ne.mpr (by omega)
  have hjl : (j : Int) ≤ 1000000 := by omega
  generalize hm : i + k = m at *
  have ew : IntKind.i64.wrap ((m : Nat) : Int) = (m : Int) := IntWalk.i64_in _ (by omega)
  have Hs := hid (show (Tryd.prog.info? 29).map (·.size) = some (hc r).size by rw [hc_size, Hroot.out, nodeL_len]; exact Tryd.sizeHash)
  have Hz := hid (show (hc r).size = (hc zero32).size by rw [hc_size, Hroot.out, nodeL_len]; rfl)
  have hs3 := Tryd.sizeHash
  generalize hd : j - i = d at *
  go_enter Tryd.func50, Tryd.ntmps50
  go_wp2_with (go_at_call 45; refine (Hsp.out _).mono ?_; rintro e w1 ⟨rfl, rfl⟩)
  show (Code.region _ _ _).wp _ _ _ (w.alloc (.cells (hc zero32) 29))
  have hL0 := hL.later HB
  have hR0 := hR.later HB
  have hS0 := hS.below HB (Nat.le_refl _)
  have HG0 := HG.out.later HB
  generalize hw0 : w.alloc (.cells (hc zero32) 29) = w0 at *
  have hRc : ∀ x : Later w0, (lat x).cell? ⟨gr, 0, none⟩ = some (rootFn gl gr) := fun x => Blk.cell1 (hR0.later (lat_below x))
  have Hc1 := hid (fun x : Later w0 => ih1 (lat x) (by omega) (by omega) (by omega) (HG0.later (lat_below x)) (hS0.below (lat_below x) (Nat.le_refl _)) (hL0.later (lat_below x)) (hR0.later (lat_below x)))
  have Hc2 := hid (fun x : Later w0 => ih2 (lat x) (by omega) (by omega) (by omega) (HG0.later (lat_below x)) (hS0.below (lat_below x) (Nat.le_refl _)) (hL0.later (lat_below x)) (hR0.later (lat_below x)))
  have HG1 := hid HG0
  have HZ := hid hZ
  clear ih ih1 ih2 hL hR hL0 hR0 hS hS0 HG0 hG h32 hZ hw0
  refine wp_region_later_tail 13 (by kernel_rfl) (by kernel_rfl) ?_
  simp only [List.take_succ_cons, List.take_zero, List.drop_succ_cons, List.drop_zero]
  repeat (first
    | (refine wpQuiet_load_one rfl 80 _ rfl ⟨gr, 0, none⟩ rfl (rootFn gl gr) _ (by rintro _ ⟨q, rfl⟩; exact hRc q) Tryd.underlying80 rfl ?_; simp only [Act.put, List.setIfInBounds_toArray, List.set_cons_succ, List.set_cons_zero])
    | go_big_quiet_step ((first | (go_at_call 50; with_reducible exact calls_later (Hc1.out _)) | (go_at_call 50; with_reducible exact calls_later (Hc2.out _)) | (go_at_call 40; with_reducible exact calls_later (node_any ra rd _ Hl.out.1 Hl.out.2 (HG1.out.later (lat_below _)))))))
  refine wpQuiet_nil ?_
  rintro _ ⟨q1, rfl⟩
  have hb1 := lat_below q1
  generalize lat q1 = w1 at *
  rw [← Hroot.out]
  replace HZ := hid (HZ.out.later hb1)
  replace HB := bth HB hb1
  refine wpList_store_blk rfl 29 _ _ rfl w.heap.size rfl (hc r) rfl _ _ HZ.out Hz.out Hs.out (hc_row_one _) ?_
  refine wpList_nil ?_
  go_wp2
  refine bodyPost_ret (results_cell_row rfl _ _ w.heap.size 29 _ (0, 0) _ rfl (HZ.out.setRow) Tryd.underlying29 rfl Hs.out) rfl ⟨rfl, ?_⟩
  exact HB.setRow (by omega) _
theorem rootc_at (hs : List (List UInt8)) (v : Value) (gl gr : Nat) (hl : hs.length ≤ 1000000) (n : Nat) : RootCAt hs v gl gr n := by
  induction n with
  | zero => intro i j w hn hij; omega
  | succ n ih =>
    intro i j w hn hij hj hG hS hL hR
    by_cases h2 : i + 2 ≤ j
    · exact rootc_many hs v gl gr n ih i j w hn hl h2 hj hG hS hL hR
    · obtain rfl : j = i + 1 := by omega
      rw [piece_one hs i (by omega), rootL_one]
      exact rootc_one hs v (rootFn gl gr) gl gr i w hl (by omega) hS hL
theorem rootc_any (hs : List (List UInt8)) (v : Value) (gl gr : Nat) (w : World) (hl : hs.length ≤ 1000000) (h0 : 0 < hs.length) (hG : ShaG w) (hS : SlAt w 32 v (hcs hs))
    (hL : Blk w gl #[v] 22) (hR : Blk w gr #[rootFn gl gr] 80) :
    Calls Tryd.prog 50 #[.int .i64 0, .int .i64 (hs.length : Int), .pointer (some ⟨gl, 0, none⟩), .pointer (some ⟨gr, 0, none⟩)] w fun e w' => e = .returned (hv (rootL hs)) ∧ Below w.heap.size w w' := by
  have := rootc_at hs v gl gr hl hs.length 0 hs.length w (by omega) h0 (Nat.le_refl _) hG hS hL hR
  rw [piece_all] at this
  exact this
end Go.Proofs.YtbpjlancjdbehaaDoor
/- speculum/trees.Root -/
namespace Go.Proofs.YtbpjlancjdbehaaDoor
open Go.RowKit Go.Spec
set_option maxHeartbeats 2000000 in
theorem root_nil (v : Value) (w : World) (hG : ShaG w) (hS : SlAt w 32 v (hcs [])) :
    Calls Tryd.prog 25 #[v] w fun e w' => e = .returned (hv (sumL [])) ∧ Below w.heap.size w w' := by
  obtain ⟨a, cap, rfl, hcap⟩ := hS.formH
  clear hS
  rw [show ([] : List (List UInt8)).length = 0 from rfl]
  have HG := hid hG; clear hG
  have d0 : (((0 : Nat) : Int) == 0) = true := rfl
  have hs3 := Tryd.sizeHash
  have Hs := hid (show (Tryd.prog.info? 29).map (·.size) = some (hc (sumL [])).size by rw [hc_size, sumL_len]; exact Tryd.sizeHash)
  have Hz := hid (show (hc (sumL [])).size = (hc zero32).size by rw [hc_size, sumL_len]; rfl)
  have Hsum := hid (fun w0 (h0 : ShaG w0) => sum_any [] w0 (by decide) h0)
  generalize sumL [] = S at *
  have HB : Below w.heap.size w ((w.alloc (.cells #[.slice a 0 cap] 22)).alloc (.cells (hc zero32) 29)) := ((Below.refl _ w).alloc (Nat.le_refl _) _).alloc (by simp) _
  have hZ : Blk ((w.alloc (.cells #[.slice a 0 cap] 22)).alloc (.cells (hc zero32) 29)) (w.heap.size + 1) (hc zero32) 29 := Blk.new' _ _ _ (by simp)
  go_enter Tryd.func25, Tryd.ntmps25
  go_wp2_with (first
    | ((with_reducible show wpList _ _ _ ({ dst := _, op := Op.store _ _ _, type := _, pos := _, after := _, guard := _ } :: _) _ _); refine wpList_store_blk rfl 29 _ _ rfl (w.heap.size + 1) rfl (hc S) rfl _ _ (hZ.later hb1) Hz.out Hs.out (hc_row_one _) ?_)
    | (go_at_call 49; refine (Hsum.out _ (HG.out.later HB)).mono ?_; rintro e w1 ⟨rfl, hb1⟩))
  replace HB := bth HB hb1
  replace hZ := hZ.later hb1
  refine bodyPost_ret (results_cell_row rfl _ _ (w.heap.size + 1) 29 _ (0, 0) _ rfl (hZ.setRow) Tryd.underlying29 rfl Hs.out) rfl ⟨rfl, ?_⟩
  exact HB.setRow (by omega) _
set_option maxHeartbeats 2000000 in
theorem root_some (hs : List (List UInt8)) (v : Value) (w : World) (h0 : 0 < hs.length) (hl : hs.length ≤ 1000000) (hG : ShaG w) (hS : SlAt w 32 v (hcs hs)) :
    Calls Tryd.prog 25 #[v] w fun e w' => e = .returned (hv (rootL hs)) ∧ Below w.heap.size w w' := by
  obtain ⟨a, cap, rfl, hcap⟩ := hS.formH
  have HG := hid hG; clear hG
  have hlen := rootL_len _ hs (Nat.le_refl _) hS.len32
  have d0 : ((hs.length : Int) == 0) = false := beq_eq_false_iff_ne.mpr (by omega)
  have hs3 := Tryd.sizeHash
  have Hs := hid (show (Tryd.prog.info? 29).map (·.size) = some (hc (rootL hs)).size by rw [hc_size, hlen]; exact Tryd.sizeHash)
  have Hz := hid (show (hc (rootL hs)).size = (hc zero32).size by rw [hc_size, hlen]; rfl)
  have Hroot := hid (fun w0 gl gr h1 h2 h3 h4 => rootc_any hs (.slice a hs.length cap) gl gr w0 hl h0 h1 h2 h3 h4)
  have H53 := hid (show (Tryd.prog.info? 80).map (·.size) = some 1 by kernel_rfl)
  clear hlen
  have HW : Hid (∀ cs cs' : Array Value, (((w.alloc (.cells #[.slice a hs.length cap] 22)).alloc (.cells (hc zero32) 29)).alloc (.cells cs 80)).setRow (w.heap.size + 1 + 1) cs' = ((w.alloc (.cells #[.slice a hs.length cap] 22)).alloc (.cells (hc zero32) 29)).alloc (.cells cs' 80)) := hid (by
    intro cs cs'
    have := setRow_alloc ((w.alloc (.cells #[.slice a hs.length cap] 22)).alloc (.cells (hc zero32) 29)) cs cs' 80 (0, 0)
    rw [← this]; congr 1; simp)
  have HB1 : Below w.heap.size w ((w.alloc (.cells #[.slice a hs.length cap] 22)).alloc (.cells (hc zero32) 29)) := ((Below.refl _ w).alloc (Nat.le_refl _) _).alloc (by simp) _
  have HB := HB1.alloc HB1.size (.cells #[rootFn w.heap.size (w.heap.size + 1 + 1)] 80)
  have hLx : Blk (((w.alloc (.cells #[.slice a hs.length cap] 22)).alloc (.cells (hc zero32) 29)).alloc (.cells #[rootFn w.heap.size (w.heap.size + 1 + 1)] 80)) w.heap.size #[.slice a hs.length cap] 22 := ((Blk.new _ _ _).alloc _).alloc _
  have hZ : Blk (((w.alloc (.cells #[.slice a hs.length cap] 22)).alloc (.cells (hc zero32) 29)).alloc (.cells #[rootFn w.heap.size (w.heap.size + 1 + 1)] 80)) (w.heap.size + 1) (hc zero32) 29 := (Blk.new' _ _ _ (by simp)).alloc _
  have hR : Blk (((w.alloc (.cells #[.slice a hs.length cap] 22)).alloc (.cells (hc zero32) 29)).alloc (.cells #[rootFn w.heap.size (w.heap.size + 1 + 1)] 80)) (w.heap.size + 1 + 1) #[rootFn w.heap.size (w.heap.size + 1 + 1)] 80 := Blk.new' _ _ _ (by simp)
  have hSx := hS.below HB (Nat.le_refl _)
  have HL := hid hLx; have HZ := hid hZ; have HR := hid hR; have HS := hid hSx
  clear hLx hZ hR hSx hS HB1
  go_enter Tryd.func25, Tryd.ntmps25
  go_wp2_with (first
    | (refine wpList_load_one rfl 22 _ rfl ⟨w.heap.size, 0, none⟩ rfl _ _ (Blk.cell1 HL.out) Tryd.underlying22 rfl ?_)
    | (refine wpList_load_one rfl 80 _ rfl ⟨w.heap.size + 1 + 1, 0, none⟩ rfl _ _ (Blk.cell1 HR.out) Tryd.underlying80 rfl ?_)
    | ((with_reducible show wpList _ _ _ ({ dst := _, op := Op.store 80 _ _, type := _, pos := _, after := _, guard := _ } :: _) _ _); refine wpList_store_oneW rfl 80 _ _ rfl (w.heap.size + 1 + 1) rfl (rootFn w.heap.size (w.heap.size + 1 + 1)) rfl _ 80 (Blk.new' _ _ _ (by simp)) H53.out rfl rfl _ (HW.out _ _) ?_)
    | ((with_reducible show wpList _ _ _ ({ dst := _, op := Op.store 29 _ _, type := _, pos := _, after := _, guard := _ } :: _) _ _); refine wpList_store_blk rfl 29 _ _ rfl (w.heap.size + 1) rfl (hc (rootL hs)) rfl _ _ (HZ.out.later hb1) Hz.out Hs.out (hc_row_one _) ?_)
    | (go_at_call 50; refine (Hroot.out _ _ _ (HG.out.later HB) HS.out HL.out HR.out).mono ?_; rintro e w1 ⟨rfl, hb1⟩))
  replace HB := bth HB hb1
  have hZ := HZ.out.later hb1
  refine bodyPost_ret (results_cell_row rfl _ _ (w.heap.size + 1) 29 _ (0, 0) _ rfl (hZ.setRow) Tryd.underlying29 rfl Hs.out) rfl ⟨rfl, ?_⟩
  exact HB.setRow (by omega) _
theorem root_any (hs : List (List UInt8)) (v : Value) (w : World) (hl : hs.length ≤ 1000000) (hG : ShaG w) (hS : SlAt w 32 v (hcs hs)) :
    Calls Tryd.prog 25 #[v] w fun e w' => e = .returned (hv (rootL hs)) ∧ Below w.heap.size w w' := by
  match hs, hl, hS with
  | [], _, hS => exact root_nil v w hG hS
  | x :: l, hl, hS => exact root_some _ v w (by simp) hl hG hS
end Go.Proofs.YtbpjlancjdbehaaDoor
/- pieces of slices of hashes (or of other rows), by run equations that hold in every world; also of nil ones -/
namespace Go.Spec
open Go.RowKit
variable {P : Program} {w : World}
theorem SlAt.takeR {size : Nat} {a : Option Addr} {n cap : Nat} {css : List (List Value)} (h : SlAt w size (.slice a n cap) css) (T E : TypeId) (hT : P.underlying T = some (.slice E)) (hE : (P.info? E).map (·.size) = some size) (ei : Int) (e : Nat) (hei : ei = e) (he : e ≤ css.length) :
    ∃ a2 c2, (∀ w', (Instr.sliceAt T (.slice a n cap) none (some (.int .i64 ei)) none).run P w' = .ok (.slice a2 e c2) w') ∧ SlAt w size (.slice a2 e c2) (css.take e) := by
  subst hei
  have hc : n ≤ cap ∧ css.length = n := by
    obtain ⟨a', cap', hv, hc, _⟩ := h
    injection hv with e1 e2 e3
    subst e3; exact ⟨by omega, e2.symm⟩
  cases hq : P.info? E with
  | none => simp [hq] at hE
  | some i =>
    have hi : i.size = size := by simpa [hq] using hE
    refine ⟨a, cap, fun w' => ?_, h.takeS e he⟩
    have hb : (0 : Int) ≤ (e : Int) ∧ (e : Int) ≤ (cap : Int) := by omega
    simp [Instr.sliceAt, Instr.slice, run_underlying hT, Instr.sliceBounds, Instr.sliceBound, asIntOf, Sem.run_bind, sizeOf, typeInfo, hq, hi, hb]
    have hec : e ≤ cap := by omega
    have hadd : Option.map (fun x : Addr => x.add 0) a = a := by
      cases a with
      | none => rfl
      | some ad => simp [Addr.add]
    simp [hec, hadd]
theorem SlAt.midR {size : Nat} {a : Option Addr} {n cap : Nat} {css : List (List Value)} (h : SlAt w size (.slice a n cap) css) (T E : TypeId) (hT : P.underlying T = some (.slice E)) (hE : (P.info? E).map (·.size) = some size) (ki ei : Int) (k e : Nat) (hki : ki = k) (hei : ei = e) (hk : k ≤ e) (he : e ≤ css.length) :
    ∃ a2 c2, (∀ w', (Instr.sliceAt T (.slice a n cap) (some (.int .i64 ki)) (some (.int .i64 ei)) none).run P w' = .ok (.slice a2 (e - k) c2) w') ∧ SlAt w size (.slice a2 (e - k) c2) ((css.take e).drop k) := by
  subst hki; subst hei
  have hc : n ≤ cap ∧ css.length = n := by
    obtain ⟨a', cap', hv, hc, _⟩ := h
    injection hv with e1 e2 e3
    subst e3; exact ⟨by omega, e2.symm⟩
  have ht := h.takeS e he
  have htl : (css.take e).length = e := by rw [List.length_take]; omega
  cases hq : P.info? E with
  | none => simp [hq] at hE
  | some i =>
    have hi : i.size = size := by simpa [hq] using hE
    have hb : (0 : Int) ≤ (e : Int) ∧ (e : Int) ≤ (cap : Int) := by omega
    have hb2 : (0 : Int) ≤ (k : Int) ∧ (k : Int) ≤ (e : Int) := by omega
    refine ⟨if cap = k then a else a.map (·.add (k * size)), cap - k, fun w' => ?_, ?_⟩
    · simp [Instr.sliceAt, Instr.slice, run_underlying hT, Instr.sliceBounds, Instr.sliceBound, asIntOf, Sem.run_bind, sizeOf, typeInfo, hq, hi, hb, hb2, hk]
      intro hx; exfalso; omega
    · by_cases hke : k = e
      · subst hke
        have e0 : (css.take k).drop k = [] := List.drop_eq_nil_of_le (by omega)
        rw [e0]
        exact ⟨(if cap = k then a else a.map (·.add (k * size))), cap - k, by simp, by simp, by simp, by simp⟩
      · obtain ⟨b, o, rfl, hlt⟩ := ht.addr (by omega)
        have hd := ht.dropS k (by omega)
        rw [if_neg (by omega)]
        simpa [Addr.add_lit] using hd
end Go.Spec
/- speculumref04.Root -/
namespace Go.Proofs.YtbpjlancjdbehaaDoor
open Go.RowKit Go.Spec
def RRootAt (n : Nat) : Prop := ∀ (hs : List (List UInt8)) (v : Value) (w : World), hs.length ≤ n → hs.length ≤ 1000000 → SlAt w 32 v (hcs hs) →
    Calls Tryd.prog 42 #[v] w fun e w' => e = .returned (hv (rootL hs)) ∧ Below w.heap.size w w'
theorem hcs_take (hs : List (List UInt8)) (k : Nat) : (hcs hs).take k = hcs (hs.take k) := by simp [hcs, List.map_take]
theorem hcs_drop (hs : List (List UInt8)) (k : Nat) : (hcs hs).drop k = hcs (hs.drop k) := by simp [hcs, List.map_drop]
set_option maxHeartbeats 2000000 in
theorem rroot_many (n : Nat) (ih : RRootAt n) (hs : List (List UInt8)) (v : Value) (w : World) (hn : hs.length ≤ n + 1) (hl : hs.length ≤ 1000000) (h2 : 2 ≤ hs.length) (hS : SlAt w 32 v (hcs hs)) :
    Calls Tryd.prog 42 #[v] w fun e w' => e = .returned (hv (rootL hs)) ∧ Below w.heap.size w w' := by
  obtain ⟨a, cap, rfl, hcap⟩ := hS.formH
  obtain ⟨b, o, rfl, hblt⟩ := hS.addr (by rw [hcs_length]; omega)
  obtain ⟨hk0, hk1⟩ := splitN_in hs.length h2
  have Hroot := hid (rootL_many hs h2)
  have HB : Below w.heap.size w (w.alloc (.cells (hc zero32) 29)) := (Below.refl _ w).alloc (Nat.le_refl _) _
  have hZ : Blk (w.alloc (.cells (hc zero32) 29)) w.heap.size (hc zero32) 29 := Blk.new _ _ _
  have d0 : ((hs.length : Int) == 0) = false := beq_eq_false_iff_ne.mpr (by omega)
  have d1 : ((hs.length : Int) == 1) = false := beq_eq_false_iff_ne.mpr (by omega)
  have hT := hS.takeS (splitN hs.length) (by rw [hcs_length]; omega)
  have hD := hS.dropS (splitN hs.length) (by rw [hcs_length]; exact hk1)
  rw [hcs_take] at hT
  rw [hcs_drop] at hD
  have H32 := hid hS.len32
  have Hsp := hid (fun w0 => rsplit_big hs.length w0 h2 (Nat.le_trans hl (by decide)))
  have hlt1 : (hs.take (splitN hs.length)).length ≤ n := by rw [List.length_take]; omega
  have hlt2 : (hs.drop (splitN hs.length)).length ≤ n := by rw [List.length_drop]; omega
  have lt1 := rootL_len _ (hs.take (splitN hs.length)) (Nat.le_refl _) (fun x hx => H32.out x (List.mem_of_mem_take hx))
  have lt2 := rootL_len _ (hs.drop (splitN hs.length)) (Nat.le_refl _) (fun x hx => H32.out x (List.mem_of_mem_drop hx))
  have hT1 := hT.below HB (Nat.le_refl _)
  have hD1 := hD.below HB (Nat.le_refl _)
  have hl1 : (hs.take (splitN hs.length)).length ≤ 1000000 := by rw [List.length_take]; omega
  have hl2 : (hs.drop (splitN hs.length)).length ≤ 1000000 := by rw [List.length_drop]; omega
  generalize hs.take (splitN hs.length) = A at *
  generalize hs.drop (splitN hs.length) = D at *
  generalize splitN hs.length = k at *
  have Hl := hid (And.intro lt1 lt2)
  have Hs := hid (show (Tryd.prog.info? 29).map (·.size) = some (hc (rootL hs)).size by rw [hc_size, Hroot.out, nodeL_len]; exact Tryd.sizeHash)
  have Hz := hid (show (hc (rootL hs)).size = (hc zero32).size by rw [hc_size, Hroot.out, nodeL_len]; rfl)
  have kI : (k : Int) ≤ (hs.length : Int) := by omega
  have hkc : k ≠ cap := by omega
  have hs3 := Tryd.sizeHash
  clear lt1 lt2 hT hD hS
  go_enter Tryd.func42, Tryd.ntmps42
  go_wp2_with (go_at_call 67; refine (Hsp.out _).mono ?_; rintro e w1 ⟨rfl, rfl⟩)
  refine wp_region_anyw (by kernel_rfl) ?_
  intro w0 he0 hb0
  replace HB := bth HB hb0
  replace hZ := hZ.heap (w' := w0) he0
  have hT2 := hT1.below hb0 (Nat.le_refl _)
  have hD2 := hD1.below hb0 (Nat.le_refl _)
  show wpAny _ _ _ _ 10 (Array.replicate 10 false) _ _
  refine wpAny_take (i := 0) (v := .slice (some ⟨b, o, none⟩) hs.length cap) rfl (by kernel_rfl) (by kernel_rfl) (by kernel_rfl) (fun _ _ _ h => h) (Or.inl ⟨by rfl, ?_⟩) ?_
  · intro w; go_simp
    try omega
  refine wpAny_take (i := 1) (v := .int .i64 (k : Int)) rfl (by kernel_rfl) (by kernel_rfl) (by kernel_rfl) (fun _ _ _ h => h) (Or.inl ⟨by rfl, ?_⟩) ?_
  · intro w; go_simp
    try omega
  refine wpAny_take (i := 2) (v := .slice (some ⟨b, o, none⟩) k cap) rfl (by kernel_rfl) (by kernel_rfl) (by kernel_rfl) (fun _ _ _ h => h) (Or.inl ⟨by rfl, ?_⟩) ?_
  · intro w; go_simp
    try omega
  refine wpAny_take (i := 4) (v := .slice (some ⟨b, o, none⟩) hs.length cap) rfl (by kernel_rfl) (by kernel_rfl) (by kernel_rfl) (fun _ _ _ h => h) (Or.inl ⟨by rfl, ?_⟩) ?_
  · intro w; go_simp
    try omega
  refine wpAny_take (i := 5) (v := .int .i64 (k : Int)) rfl (by kernel_rfl) (by kernel_rfl) (by kernel_rfl) (fun _ _ _ h => h) (Or.inl ⟨by rfl, ?_⟩) ?_
  · intro w; go_simp
    try omega
  refine wpAny_take (i := 6) (v := .slice (some ⟨b, o + k * 32, none⟩) (hs.length - k) (cap - k)) rfl (by kernel_rfl) (by kernel_rfl) (by kernel_rfl) (fun _ _ _ h => h) (Or.inl ⟨by rfl, ?_⟩) ?_
  · intro w; go_simp
    try omega
  refine wpAny_forced (i := 3) (by kernel_rfl) rfl ?_
  go_wp2_with (go_at_call 42; refine (ih A _ _ hlt1 hl1 hT2).mono ?_; rintro e w1 ⟨rfl, hb1⟩)
  replace HB := bth HB hb1
  replace hZ := hZ.later hb1
  have hD3 := hD2.below hb1 (Nat.le_refl _)
  refine wpAny_forced (i := 7) (by kernel_rfl) rfl ?_
  go_wp2_with (go_at_call 42; refine (ih D _ _ hlt2 hl2 hD3).mono ?_; rintro e w2 ⟨rfl, hb2⟩)
  replace HB := bth HB hb2
  replace hZ := hZ.later hb2
  refine wpAny_forced (i := 8) (by kernel_rfl) rfl ?_
  go_wp2_with (go_at_call 68; refine (rnode_any (rootL A) (rootL D) _ Hl.out.1 Hl.out.2).mono ?_; rintro e w3 ⟨rfl, hb3⟩)
  replace HB := bth HB hb3
  replace hZ := hZ.later hb3
  rw [← Hroot.out]
  refine wpAny_forced (i := 9) (by kernel_rfl) rfl ?_
  refine wpList_store_blk rfl 29 _ _ rfl w.heap.size rfl (hc (rootL hs)) rfl _ _ hZ Hz.out Hs.out (hc_row_one _) ?_
  refine wpList_nil ?_
  refine wpAny_done (by kernel_rfl) ?_ _
  go_wp2
  refine bodyPost_ret (results_cell_row rfl _ _ w.heap.size 29 _ (0, 0) _ rfl (hZ.setRow) Tryd.underlying29 rfl Hs.out) rfl ⟨rfl, ?_⟩
  exact HB.setRow (by omega) _
end Go.Proofs.YtbpjlancjdbehaaDoor
/- paths.Path -/
namespace Go.Proofs.YtbpjlancjdbehaaDoor
open Go.RowKit Go.Spec
def inN (i : Int) (n : Nat) : Prop := 0 ≤ i ∧ i < n
instance (i : Int) (n : Nat) : Decidable (inN i n) := by unfold inN; infer_instance
theorem path_32 : ∀ (n : Nat) (l : List (List UInt8)) (i : Nat), l.length ≤ n → (∀ x ∈ l, x.length = 32) → ∀ x ∈ pathL l i, x.length = 32
  | 0, l, i, h, _ => by rw [path_one _ _ (by omega)]; simp
  | n + 1, l, i, h, h32 => by
    by_cases h1 : l.length ≤ 1
    · rw [path_one _ _ h1]; simp
    · obtain ⟨s1, s2⟩ := splitN_in l.length (by omega)
      rw [path_many l i (by omega)]
      have ht : ∀ x ∈ l.take (splitN l.length), x.length = 32 := fun x hx => h32 x (List.mem_of_mem_take hx)
      have hd : ∀ x ∈ l.drop (splitN l.length), x.length = 32 := fun x hx => h32 x (List.mem_of_mem_drop hx)
      intro x hx
      split at hx
      · rcases List.mem_append.1 hx with h2 | h2
        · exact path_32 n _ _ (by rw [List.length_take]; omega) ht x h2
        · rw [List.mem_singleton.1 h2]; exact rootL_len _ _ (Nat.le_refl _) hd
      · rcases List.mem_append.1 hx with h2 | h2
        · exact path_32 n _ _ (by rw [List.length_drop]; omega) hd x h2
        · rw [List.mem_singleton.1 h2]; exact rootL_len _ _ (Nat.le_refl _) ht
theorem path_len (l : List (List UInt8)) (i : Nat) (J : Nat) (hi : i < l.length) (h : l.length ≤ 2 ^ J) : (pathL l i).length ≤ J := by
  rw [(path_all l.length l i (Nat.le_refl _) hi).1]
  exact dir_len J _ _ (by omega)
set_option maxHeartbeats 1000000 in
theorem path_out (v : Value) (hs : List (List UInt8)) (i : Int) (w : World) (hS : SlAt w 32 v (hcs hs)) (hl : hs.length ≤ 1000000) (hi : ¬ inN i hs.length) :
    Calls Tryd.prog 56 #[v, .int .i64 i] w fun e w' => e = .returned (.tuple #[.slice none 0 0, .int .i64 2]) ∧ Below w.heap.size w w' := by
  obtain ⟨a, cap, rfl, hcap⟩ := hS.formH
  clear hS
  by_cases h0 : i < 0
  · have d0 : decide (i < 0) = true := by simpa using h0
    clear h0
    go_enter Tryd.func56, Tryd.ntmps56
    go_wp2
    go_ret2
    exact ⟨rfl, Below.refl _ _⟩
  · have d0 : decide (i < 0) = false := by simpa using h0
    have d1 : decide ((hs.length : Int) ≤ i) = true := by unfold inN at hi; simp; omega
    clear h0 hi
    go_enter Tryd.func56, Tryd.ntmps56
    go_wp2
    go_ret2
    exact ⟨rfl, Below.refl _ _⟩
set_option maxHeartbeats 4000000 in
theorem path_in (v : Value) (hs : List (List UInt8)) (i : Nat) (w : World) (hS : SlAt w 32 v (hcs hs)) (hl : hs.length ≤ 1000000) (hi : i < hs.length) (hG : ShaG w) :
    Calls Tryd.prog 56 #[v, .int .i64 (i : Int)] w fun e w' => (∃ u, e = .returned (.tuple #[u, .int .i64 0]) ∧ w'.ownsRow w.heap.size 29 32 u (pathL hs i).length (hflat (pathL hs i))) ∧ Below w.heap.size w w' := by
  have HG := hid hG; clear hG
  obtain ⟨i0, hi0, hz0, hz1, hz2⟩ := info_parts Tryd.infoHash
  obtain ⟨a, cap, rfl, hcap⟩ := hS.formH
  have HS := hid hS
  have H32 := hid hS.len32
  have hpl := path_len hs i 20 hi (by omega)
  have Hpl := hid hpl
  have Hp32 := hid (path_32 hs.length hs i (Nat.le_refl _) H32.out)
  clear hS hpl
  have d0 : decide ((i : Int) < 0) = false := by simp
  have d1 : decide (hs.length ≤ i) = false := by simp; omega
  generalize hP : pathL hs i = P at *
  have HP := hid hP
  clear hP
  go_enter Tryd.func56, Tryd.ntmps56
  go_wp2_with fail
  go_loopw [0, 1, 6] (fun l x ov wr => ∃ (A : List (List UInt8)) (j : Nat) (R : List (List UInt8)) (a' : Option Addr) (c' : Nat), l = .slice a' A.length c' ∧ A.length ≤ c' ∧ SlAt w 32 l (hcs A) ∧ j < A.length ∧ A.length ≤ 1000000 ∧ x = .int .i64 (j : Int) ∧ wr.ownsRow w.heap.size 29 32 ov R.length (hflat R) ∧ P = pathL A j ++ R.reverse ∧ Below w.heap.size w wr) (fun l _ _ _ => match l with | .slice _ n _ => n | _ => 0)
  case atStart => exact ⟨hs, i, [], a, cap, rfl, hcap, HS.out, hi, hl, rfl, World.ownsRow_nil _ _ _ _, by rw [HP.out]; simp, Below.refl _ _⟩
  case round =>
    obtain ⟨A, j, R, a', c', rfl, hc', hAw, hj, hA1, rfl, hown, hPe, hb⟩ := hrel
    have hA := hAw.below hb (Nat.le_refl _)
    clear hi hl hcap d0 d1
    by_cases h2 : 2 ≤ A.length
    · have hd : decide ((1 : Int) < (A.length : Int)) = true := by simp; omega
      obtain ⟨b, o, rfl, hblt⟩ := hA.addr (by rw [hcs_length]; omega)
      obtain ⟨hk0, hk1⟩ := splitN_in A.length h2
      have hT := hA.takeS (splitN A.length) (by rw [hcs_length]; omega)
      have hD := hA.dropS (splitN A.length) (by rw [hcs_length]; exact hk1)
      rw [hcs_take] at hT
      rw [hcs_drop] at hD
      have hTw := hAw.takeS (splitN A.length) (by rw [hcs_length]; omega)
      have hDw := hAw.dropS (splitN A.length) (by rw [hcs_length]; exact hk1)
      rw [hcs_take] at hTw
      rw [hcs_drop] at hDw
      have Hsp := hid (fun w0 => split_big A.length w0 h2 (Nat.le_trans hA1 (by decide)))
      have hRl := hid (show R.length ≤ 20 by have := Hpl.out; rw [hPe, List.length_append, List.length_reverse] at this; omega)
      have hA32 := hA.len32
      have lt1 := rootL_len _ (A.take (splitN A.length)) (Nat.le_refl _) (fun x hx => hA32 x (List.mem_of_mem_take hx))
      have lt2 := rootL_len _ (A.drop (splitN A.length)) (Nat.le_refl _) (fun x hx => hA32 x (List.mem_of_mem_drop hx))
      have hpm := path_many A j h2
      have e1 : (A.take (splitN A.length)).length = splitN A.length := by rw [List.length_take]; omega
      have e2 : (A.drop (splitN A.length)).length = A.length - splitN A.length := by rw [List.length_drop]
      have hlA1 : (A.take (splitN A.length)).length ≤ 1000000 := by omega
      have hlA2 : (A.drop (splitN A.length)).length ≤ 1000000 := by omega
      have hi0s : True := trivial
      generalize A.take (splitN A.length) = A1 at *
      generalize A.drop (splitN A.length) = A2 at *
      generalize splitN A.length = k at *
      have E1 := hid e1; have E2 := hid e2
      clear e1 e2
      have kI : (k : Int) ≤ (A.length : Int) := by omega
      have hkc : k ≠ c' := by omega
      by_cases hjk : j < k
      · rw [if_pos hjk] at hpm
        have hdk : decide (j < k) = true := by simpa using hjk
        have Hpm := hid hpm
        have HR := hid (fun w0 h0 hS => root_any A2 (.slice (some ⟨b, o + k * 32, none⟩) (A.length - k) (c' - k)) w0 hlA2 h0 hS)
        have HRl := hid lt2
        generalize rootL A2 = S at *
        have HSs := hid hD; have HTs := hid hT
        have Hown := hid hown
        have HPe := hid hPe
        have HTw := hid hTw
        clear hDw hTw hAw
        clear hpm lt1 lt2 hA hA32 hD hT hown hPe hi0s
        go_wp2_with (first
          | (go_at_call 45; refine (Hsp.out _).mono ?_; rintro e w1 ⟨rfl, rfl⟩)
          | (go_at_call 25; refine (HR.out _ (HG.out.later hb) HSs.out).mono ?_; rintro e w2 ⟨rfl, hb2⟩)
          | (refine wpList_buildSlice_one rfl 22 29 _ rfl 32 (hv zero32) (hv S) (hc S) rfl Tryd.underlying22 Tryd.infoHash2 rfl (by rw [hc_size, HRl.out]) (by decide) (by decide) ?_)
          | (at_builtin; go_must (refine wpList_app rfl _ _ 22 rfl w.heap.size 29 i0 (hv zero32) 32 32 Tryd.underlying22 hi0 hz0 hz1 hz2 rfl (by decide) _ R.length (hflat R) rfl ?c1 ⟨w2.heap.size, 0, none⟩ 1 1 (S.map bcell) rfl ?c2 ?c3 ?c4 ?c5 ?c6 ?c7 ?_)))
        case c1 => exact (Hown.out.later hb2).alloc _
        case c2 => simp [HRl.out]
        case c3 =>
          intro j u hj
          exact row_alloc (w := w2) (cs := hc S) (t := 29) (fr := (0, 0)) j u (by rw [hc_toList]; exact hj)
        case c4 => exact bcell_one S
        case c5 => have := hRl.out; unfold maxLen; omega
        case c6 => have := hRl.out; omega
        case c7 => have := (bth hb hb2).size; simp; omega
        intro v' w5 hown5 hgrow hat
        have hb3 := (bth hb hb2).alloc (bth hb hb2).size (.cells (hc S) 29)
        have hb5 := hb3.grown hgrow (by have := (bth hb hb2).size; simp; omega) (fun q hq => ((Hown.out.later hb2).lt q hq).1)
        go_wp2
        go_roundw
        case rel =>
          refine ⟨A1, j, R ++ [S], some ⟨b, o, none⟩, c', by rw [E1.out], by rw [E1.out]; omega, HTw.out, by rw [E1.out]; omega, by rw [E1.out]; omega, by go_num, ?_, ?_, hb5⟩
          · rw [hflat_snoc, List.length_append]; exact hown5
          · rw [HPe.out, Hpm.out]; simp
        case measure => simp; omega
      · rw [if_neg hjk] at hpm
        have hdk : decide (j < k) = false := by simpa using hjk
        have Hpm := hid hpm
        have HR := hid (fun w0 h0 hS => root_any A1 (.slice (some ⟨b, o, none⟩) k c') w0 hlA1 h0 hS)
        have HRl := hid lt1
        generalize rootL A1 = S at *
        have HSs := hid hD; have HTs := hid hT
        have Hown := hid hown
        have HPe := hid hPe
        have HDw := hid hDw
        clear hDw hTw hAw
        obtain ⟨j2, hj2⟩ : ∃ j2, j - k = j2 := ⟨_, rfl⟩
        have ej : (j : Int) - (k : Int) = (j2 : Int) := by omega
        rw [hj2] at Hpm
        clear hpm lt1 lt2 hA hA32 hD hT hown hPe hi0s
        go_wp2_with (first
          | (go_at_call 45; refine (Hsp.out _).mono ?_; rintro e w1 ⟨rfl, rfl⟩)
          | (go_at_call 25; refine (HR.out _ (HG.out.later hb) HTs.out).mono ?_; rintro e w2 ⟨rfl, hb2⟩)
          | (refine wpList_buildSlice_one rfl 22 29 _ rfl 32 (hv zero32) (hv S) (hc S) rfl Tryd.underlying22 Tryd.infoHash2 rfl (by rw [hc_size, HRl.out]) (by decide) (by decide) ?_)
          | (at_builtin; go_must (refine wpList_app rfl _ _ 22 rfl w.heap.size 29 i0 (hv zero32) 32 32 Tryd.underlying22 hi0 hz0 hz1 hz2 rfl (by decide) _ R.length (hflat R) rfl ?c1 ⟨w2.heap.size, 0, none⟩ 1 1 (S.map bcell) rfl ?c2 ?c3 ?c4 ?c5 ?c6 ?c7 ?_)))
        case c1 => exact (Hown.out.later hb2).alloc _
        case c2 => simp [HRl.out]
        case c3 =>
          intro j u hj
          exact row_alloc (w := w2) (cs := hc S) (t := 29) (fr := (0, 0)) j u (by rw [hc_toList]; exact hj)
        case c4 => exact bcell_one S
        case c5 => have := hRl.out; unfold maxLen; omega
        case c6 => have := hRl.out; omega
        case c7 => have := (bth hb hb2).size; simp; omega
        intro v' w5 hown5 hgrow hat
        have hb3 := (bth hb hb2).alloc (bth hb hb2).size (.cells (hc S) 29)
        have hb5 := hb3.grown hgrow (by have := (bth hb hb2).size; simp; omega) (fun q hq => ((Hown.out.later hb2).lt q hq).1)
        go_wp2
        go_roundw
        case rel =>
          refine ⟨A2, j2, R ++ [S], some ⟨b, o + k * 32, none⟩, c' - k, by rw [E2.out], by rw [E2.out]; omega, HDw.out, by rw [E2.out]; omega, by rw [E2.out]; omega, by go_num, ?_, ?_, hb5⟩
          · rw [hflat_snoc, List.length_append]; exact hown5
          · rw [HPe.out, Hpm.out]; simp
        case measure => simp; omega
    · have hd : decide ((1 : Int) < (A.length : Int)) = false := by simp; omega
      rw [path_one A j (by omega), List.nil_append] at hPe
      have hR32 : ∀ x ∈ R, x.length = 32 := fun x hx => Hp32.out x (by rw [hPe]; exact List.mem_reverse.2 hx)
      have hRl : R.length ≤ 20 := by have := Hpl.out; rw [hPe, List.length_reverse] at this; exact this
      have Hown := hid hown
      have RV := hid (rev_any w.heap.size R.length _ R wr rfl (by omega) hR32 hown hb.size)
      have HPe := hid hPe
      clear hown hPe hA hAw
      go_wp2_with fail
      refine RV.out.mono ?_
      rintro e w3 ⟨rfl, hown3, hb3⟩
      have Hown3 := hid hown3
      clear hown3
      go_wp2
      go_ret2
      refine ⟨⟨_, rfl, ?_⟩, hb.trans hb3⟩
      rw [HPe.out, List.length_reverse]
      exact Hown3.out
end Go.Proofs.YtbpjlancjdbehaaDoor
/- speculumref04.Root: the short ways, and the whole -/
namespace Go.Proofs.YtbpjlancjdbehaaDoor
open Go.RowKit Go.Spec
set_option maxHeartbeats 2000000 in
theorem rroot_nil (v : Value) (w : World) (hS : SlAt w 32 v (hcs [])) :
    Calls Tryd.prog 42 #[v] w fun e w' => e = .returned (hv (sumL [])) ∧ Below w.heap.size w w' := by
  obtain ⟨a, cap, rfl, hcap⟩ := hS.formH
  have HB : Below w.heap.size w (w.alloc (.cells (hc zero32) 29)) := (Below.refl _ w).alloc (Nat.le_refl _) _
  have hZ : Blk (w.alloc (.cells (hc zero32) 29)) w.heap.size (hc zero32) 29 := Blk.new _ _ _
  clear hS
  rw [show ([] : List (List UInt8)).length = 0 from rfl]
  have d0 : (((0 : Nat) : Int) == 0) = true := rfl
  have hs3 := Tryd.sizeHash
  have Hx := hid (sumL_len [])
  have Hs := hid (show (Tryd.prog.info? 29).map (·.size) = some (hc (sumL [])).size by rw [hc_size, sumL_len]; exact Tryd.sizeHash)
  have Hz := hid (show (hc (sumL [])).size = (hc zero32).size by rw [hc_size, sumL_len]; rfl)
  have Hsum := hid (fun w0 => rsum_any [] w0 (by decide))
  generalize sumL [] = S at *
  go_enter Tryd.func42, Tryd.ntmps42
  go_wp2_with (first
    | (refine wpList_store_blk rfl 29 _ _ rfl w.heap.size rfl (hc S) rfl _ _ (hZ.later hb1) Hz.out Hs.out (hc_row_one _) ?_)
    | (go_at_call 66; refine (Hsum.out _).mono ?_; rintro e w1 ⟨rfl, hb1⟩))
  replace HB := bth HB hb1
  replace hZ := hZ.later hb1
  refine bodyPost_ret (results_cell_row rfl _ _ w.heap.size 29 _ (0, 0) _ rfl (hZ.setRow) Tryd.underlying29 rfl Hs.out) rfl ⟨rfl, ?_⟩
  exact HB.setRow (by omega) _
set_option maxHeartbeats 2000000 in
theorem rroot_one (x : List UInt8) (v : Value) (w : World) (hS : SlAt w 32 v (hcs [x])) :
    Calls Tryd.prog 42 #[v] w fun e w' => e = .returned (hv x) ∧ Below w.heap.size w w' := by
  obtain ⟨a, cap, rfl, hcap⟩ := hS.formH
  have HB : Below w.heap.size w (w.alloc (.cells (hc zero32) 29)) := (Below.refl _ w).alloc (Nat.le_refl _) _
  have hZ : Blk (w.alloc (.cells (hc zero32) 29)) w.heap.size (hc zero32) 29 := Blk.new _ _ _
  have hx : x.length = 32 := hS.len32 x (by simp)
  have hS1 := hS.below HB (Nat.le_refl _)
  obtain ⟨b, o, rfl, hbl, hcl, hcell⟩ := hS1.at (i := 0) (cs := x.map bcell) (by simp [hcs])
  clear hS hS1
  rw [show o + 0 * 32 = o by omega] at hcell
  rw [show [x].length = 1 from rfl]
  have d0 : (((1 : Nat) : Int) == 0) = false := rfl
  have d1 : (((1 : Nat) : Int) == 1) = true := rfl
  have hs3 := Tryd.sizeHash
  have Hs := hid (show (Tryd.prog.info? 29).map (·.size) = some (hc x).size by rw [hc_size, hx]; exact Tryd.sizeHash)
  have Hz := hid (show (hc x).size = (hc zero32).size by rw [hc_size, hx]; rfl)
  have Hsx := hid (show (Tryd.prog.info? 29).map (·.size) = some x.length by rw [hx]; exact Tryd.sizeHash)
  have Hcell := hid hcell
  clear hcell hcl
  go_enter Tryd.func42, Tryd.ntmps42
  go_wp2_with (first
    | (refine wpList_load_hc rfl 29 _ rfl ⟨b, o, none⟩ rfl x _ Hcell.out Tryd.underlying29 rfl Hsx.out ?_)
    | (refine wpList_store_blk rfl 29 _ _ rfl w.heap.size rfl (hc x) rfl _ _ hZ Hz.out Hs.out (hc_row_one _) ?_))
  refine bodyPost_ret (results_cell_row rfl _ _ w.heap.size 29 _ (0, 0) _ rfl (hZ.setRow) Tryd.underlying29 rfl Hs.out) rfl ⟨rfl, ?_⟩
  exact HB.setRow (by omega) _
theorem rroot_at (n : Nat) : RRootAt n := by
  induction n with
  | zero =>
    intro hs v w hn hl hS
    obtain rfl : hs = [] := List.length_eq_zero_iff.mp (by omega)
    exact rroot_nil v w hS
  | succ n ih =>
    intro hs v w hn hl hS
    match hs, hn, hl, hS with
    | [], _, _, hS => exact rroot_nil v w hS
    | [x], _, _, hS => rw [rootL_one]; exact rroot_one x v w hS
    | x :: y :: l, hn, hl, hS => exact rroot_many n ih _ v w hn hl (by simp) hS
theorem rroot_any (hs : List (List UInt8)) (v : Value) (w : World) (hl : hs.length ≤ 1000000) (hS : SlAt w 32 v (hcs hs)) :
    Calls Tryd.prog 42 #[v] w fun e w' => e = .returned (hv (rootL hs)) ∧ Below w.heap.size w w' :=
  rroot_at hs.length hs v w (Nat.le_refl _) hl hS
end Go.Proofs.YtbpjlancjdbehaaDoor
/- speculumref06.Path -/
namespace Go.Proofs.YtbpjlancjdbehaaDoor
open Go.RowKit Go.Spec
def RPathAt (n : Nat) : Prop := ∀ (hs : List (List UInt8)) (v : Value) (i : Nat) (w : World), hs.length ≤ n → hs.length ≤ 1000000 → SlAt w 32 v (hcs hs) → i < hs.length →
    Calls Tryd.prog 46 #[v, .int .i64 (i : Int)] w fun e w' => (∃ u, e = .returned (.tuple #[u, .int .i64 0]) ∧ w'.ownsRow w.heap.size 29 32 u (pathL hs i).length (hflat (pathL hs i))) ∧ Below w.heap.size w w'
set_option maxHeartbeats 1000000 in
theorem rpath_out (v : Value) (hs : List (List UInt8)) (i : Int) (w : World) (hS : SlAt w 32 v (hcs hs)) (hl : hs.length ≤ 1000000) (hi : ¬ inN i hs.length) :
    Calls Tryd.prog 46 #[v, .int .i64 i] w fun e w' => e = .returned (.tuple #[.slice none 0 0, .int .i64 2]) ∧ Below w.heap.size w w' := by
  obtain ⟨a, cap, rfl, hcap⟩ := hS.formH
  clear hS
  by_cases h0 : i < 0
  · have d0 : decide (i < 0) = true := by simpa using h0
    clear h0
    go_enter Tryd.func46, Tryd.ntmps46
    go_wp2
    go_ret2
    exact ⟨rfl, Below.refl _ _⟩
  · have d0 : decide (i < 0) = false := by simpa using h0
    have d1 : decide ((hs.length : Int) ≤ i) = true := by unfold inN at hi; simp; omega
    clear h0 hi
    go_enter Tryd.func46, Tryd.ntmps46
    go_wp2
    go_ret2
    exact ⟨rfl, Below.refl _ _⟩
set_option maxHeartbeats 1000000 in
theorem rpath_one (v : Value) (hs : List (List UInt8)) (i : Nat) (w : World) (hS : SlAt w 32 v (hcs hs)) (hl : hs.length = 1) (hi : i < hs.length) :
    Calls Tryd.prog 46 #[v, .int .i64 (i : Int)] w fun e w' => (∃ u, e = .returned (.tuple #[u, .int .i64 0]) ∧ w'.ownsRow w.heap.size 29 32 u (pathL hs i).length (hflat (pathL hs i))) ∧ Below w.heap.size w w' := by
  obtain ⟨a, cap, rfl, hcap⟩ := hS.formH
  rw [path_one hs i (by omega)]
  have d0 : decide ((i : Int) < 0) = false := by simp
  have d1 : decide (hs.length ≤ i) = false := by simp; omega
  have d2 : ((hs.length : Int) == 1) = true := by rw [hl]; rfl
  clear hS hl hi
  go_enter Tryd.func46, Tryd.ntmps46
  go_wp2
  go_ret2
  exact ⟨⟨_, rfl, World.ownsRow_nil _ _ _ _⟩, Below.refl _ _⟩
set_option maxHeartbeats 4000000 in
theorem rpath_many (n : Nat) (ih : RPathAt n) (A : List (List UInt8)) (v : Value) (j : Nat) (w : World) (hn : A.length ≤ n + 1) (hA1 : A.length ≤ 1000000) (h2 : 2 ≤ A.length) (hA : SlAt w 32 v (hcs A)) (hj : j < A.length) :
    Calls Tryd.prog 46 #[v, .int .i64 (j : Int)] w fun e w' => (∃ u, e = .returned (.tuple #[u, .int .i64 0]) ∧ w'.ownsRow w.heap.size 29 32 u (pathL A j).length (hflat (pathL A j))) ∧ Below w.heap.size w w' := by
  obtain ⟨i0, hi0, hz0, hz1, hz2⟩ := info_parts Tryd.infoHash
  obtain ⟨a, c', rfl, hc'⟩ := hA.formH
  have d0 : decide ((j : Int) < 0) = false := by simp
  have d1 : decide (A.length ≤ j) = false := by simp; omega
  have d2 : ((A.length : Int) == 1) = false := beq_eq_false_iff_ne.mpr (by omega)
  obtain ⟨b, o, rfl, hblt⟩ := hA.addr (by rw [hcs_length]; omega)
  obtain ⟨hk0, hk1⟩ := splitN_in A.length h2
  have hT := hA.takeS (splitN A.length) (by rw [hcs_length]; omega)
  have hD := hA.dropS (splitN A.length) (by rw [hcs_length]; exact hk1)
  rw [hcs_take] at hT
  rw [hcs_drop] at hD
  have Hsp := hid (fun w0 => rsplit_big A.length w0 h2 (Nat.le_trans hA1 (by decide)))
  have hA32 := hA.len32
  have lt1 := rootL_len _ (A.take (splitN A.length)) (Nat.le_refl _) (fun x hx => hA32 x (List.mem_of_mem_take hx))
  have lt2 := rootL_len _ (A.drop (splitN A.length)) (Nat.le_refl _) (fun x hx => hA32 x (List.mem_of_mem_drop hx))
  have hpm := path_many A j h2
  have hPl := path_len A j 20 hj (by omega)
  have e1 : (A.take (splitN A.length)).length = splitN A.length := by rw [List.length_take]; omega
  have e2 : (A.drop (splitN A.length)).length = A.length - splitN A.length := by rw [List.length_drop]
  have hn1 : (A.take (splitN A.length)).length ≤ n := by omega
  have hn2 : (A.drop (splitN A.length)).length ≤ n := by omega
  have hlA1 : (A.take (splitN A.length)).length ≤ 1000000 := by omega
  have hlA2 : (A.drop (splitN A.length)).length ≤ 1000000 := by omega
  generalize A.take (splitN A.length) = A1 at *
  generalize A.drop (splitN A.length) = A2 at *
  generalize splitN A.length = k at *
  have E1 := hid e1; have E2 := hid e2
  clear e1 e2 hn
  have kI : (k : Int) ≤ (A.length : Int) := by omega
  have hkc : k ≠ c' := by omega
  have HT := hid hT; have HD := hid hD
  by_cases hjk : j < k
  · rw [if_pos hjk] at hpm
    have hdk : decide (j < k) = true := by simpa using hjk
    have I := hid (ih A1 (.slice (some ⟨b, o, none⟩) k c') j w hn1 hlA1 hT (by rw [E1.out]; exact hjk))
    have R := hid (fun w0 hS => rroot_any A2 (.slice (some ⟨b, o + k * 32, none⟩) (A.length - k) (c' - k)) w0 hlA2 hS)
    have hQl : (pathL A1 j).length ≤ 20 := by rw [hpm, List.length_append] at hPl; omega
    generalize hQ : pathL A1 j = Q at *
    generalize hS : rootL A2 = S at *
    have HRl := hid lt2
    have Hpm := hid hpm
    clear hpm hPl lt1 lt2 hA hA32 hD hT hQ hS
    go_enter Tryd.func46, Tryd.ntmps46
    go_upto_region 8 with (first
      | (go_at_call 67; refine (Hsp.out _).mono ?_; rintro e w1 ⟨rfl, rfl⟩)
      | (go_at_call 46; refine I.out.mono ?_; rintro e w2 ⟨⟨u, rfl, hown⟩, hb2⟩))
    have Hown := hid hown; have HD2 := hid (HD.out.below hb2 (Nat.le_refl _))
    clear hown
    go_wp2_with (first
      | (go_at_call 42; refine (R.out _ HD2.out).mono ?_; rintro e w3 ⟨rfl, hb3⟩)
      | (refine wpList_buildSlice_one rfl 22 29 _ rfl 32 (hv zero32) (hv S) (hc S) rfl Tryd.underlying22 Tryd.infoHash2 rfl (by rw [hc_size, HRl.out]) (by decide) (by decide) ?_)
      | (at_builtin; go_must (refine wpList_app rfl _ _ 22 rfl w.heap.size 29 i0 (hv zero32) 32 32 Tryd.underlying22 hi0 hz0 hz1 hz2 rfl (by decide) u Q.length (hflat Q) rfl ?c1 ⟨w3.heap.size, 0, none⟩ 1 1 (S.map bcell) rfl ?c2 ?c3 ?c4 ?c5 ?c6 ?c7 ?_)))
    case c1 => exact (Hown.out.later hb3).alloc _
    case c2 => simp [HRl.out]
    case c3 =>
      intro j u hj
      exact row_alloc (w := w3) (cs := hc S) (t := 29) (fr := (0, 0)) j u (by rw [hc_toList]; exact hj)
    case c4 => exact bcell_one S
    case c5 => unfold maxLen; omega
    case c6 => omega
    case c7 => have := (bth hb2 hb3).size; simp; omega
    intro v' w5 hown5 hgrow hat
    have hb5 := ((bth hb2 hb3).alloc (bth hb2 hb3).size (.cells (hc S) 29)).grown hgrow (by have := (bth hb2 hb3).size; simp; omega) (fun q hq => ((Hown.out.later hb3).lt q hq).1)
    go_wp2
    go_ret2
    refine ⟨⟨v', rfl, ?_⟩, hb5⟩
    rw [Hpm.out, List.length_append, hflat_snoc]
    exact hown5
  · rw [if_neg hjk] at hpm
    have hdk : decide (j < k) = false := by simpa using hjk
    obtain ⟨j2, hj2⟩ : ∃ j2, j - k = j2 := ⟨_, rfl⟩
    have ej : (j : Int) - (k : Int) = (j2 : Int) := by omega
    rw [hj2] at hpm
    have I := hid (ih A2 (.slice (some ⟨b, o + k * 32, none⟩) (A.length - k) (c' - k)) j2 w hn2 hlA2 hD (by rw [E2.out]; omega))
    have R := hid (fun w0 hS => rroot_any A1 (.slice (some ⟨b, o, none⟩) k c') w0 hlA1 hS)
    have hQl : (pathL A2 j2).length ≤ 20 := by rw [hpm, List.length_append] at hPl; omega
    generalize hQ : pathL A2 j2 = Q at *
    generalize hS : rootL A1 = S at *
    have HRl := hid lt1
    have Hpm := hid hpm
    clear hpm hPl lt1 lt2 hA hA32 hD hT hQ hS
    go_enter Tryd.func46, Tryd.ntmps46
    go_upto_region 10 with (first
      | (go_at_call 67; refine (Hsp.out _).mono ?_; rintro e w1 ⟨rfl, rfl⟩)
      | (go_at_call 46; refine I.out.mono ?_; rintro e w2 ⟨⟨u, rfl, hown⟩, hb2⟩))
    have Hown := hid hown; have HD2 := hid (HT.out.below hb2 (Nat.le_refl _))
    clear hown
    go_wp2_with (first
      | (go_at_call 42; refine (R.out _ HD2.out).mono ?_; rintro e w3 ⟨rfl, hb3⟩)
      | (refine wpList_buildSlice_one rfl 22 29 _ rfl 32 (hv zero32) (hv S) (hc S) rfl Tryd.underlying22 Tryd.infoHash2 rfl (by rw [hc_size, HRl.out]) (by decide) (by decide) ?_)
      | (at_builtin; go_must (refine wpList_app rfl _ _ 22 rfl w.heap.size 29 i0 (hv zero32) 32 32 Tryd.underlying22 hi0 hz0 hz1 hz2 rfl (by decide) u Q.length (hflat Q) rfl ?c1 ⟨w3.heap.size, 0, none⟩ 1 1 (S.map bcell) rfl ?c2 ?c3 ?c4 ?c5 ?c6 ?c7 ?_)))
    case c1 => exact (Hown.out.later hb3).alloc _
    case c2 => simp [HRl.out]
    case c3 =>
      intro j u hj
      exact row_alloc (w := w3) (cs := hc S) (t := 29) (fr := (0, 0)) j u (by rw [hc_toList]; exact hj)
    case c4 => exact bcell_one S
    case c5 => unfold maxLen; omega
    case c6 => omega
    case c7 => have := (bth hb2 hb3).size; simp; omega
    intro v' w5 hown5 hgrow hat
    have hb5 := ((bth hb2 hb3).alloc (bth hb2 hb3).size (.cells (hc S) 29)).grown hgrow (by have := (bth hb2 hb3).size; simp; omega) (fun q hq => ((Hown.out.later hb3).lt q hq).1)
    go_wp2
    go_ret2
    refine ⟨⟨v', rfl, ?_⟩, hb5⟩
    rw [Hpm.out, List.length_append, hflat_snoc]
    exact hown5
theorem rpath_at : ∀ n, RPathAt n
  | 0 => fun hs v i w hn hl hS hi => by omega
  | n + 1 => fun hs v i w hn hl hS hi => by
    by_cases h2 : 2 ≤ hs.length
    · exact rpath_many n (rpath_at n) hs v i w hn hl h2 hS hi
    · exact rpath_one v hs i w hS (by omega) hi
end Go.Proofs.YtbpjlancjdbehaaDoor
/- the path of any leaf: the program's and the document's, for every number -/
namespace Go.Proofs.YtbpjlancjdbehaaDoor
open Go.RowKit Go.Spec
theorem path_sl (v : Value) (hs : List (List UInt8)) (i : Nat) (w : World) (hS : SlAt w 32 v (hcs hs)) (hl : hs.length ≤ 1000000) (hi : i < hs.length) (hG : ShaG w) :
    Calls Tryd.prog 56 #[v, .int .i64 (i : Int)] w fun e w' => (∃ u, e = .returned (.tuple #[u, .int .i64 0]) ∧ SlAt w' 32 u (hcs (pathL hs i))) ∧ Below w.heap.size w w' :=
  (path_in v hs i w hS hl hi hG).mono fun _ _ ⟨⟨u, he, hown⟩, hb⟩ => ⟨⟨u, he, SlAt.of_owns (size := 32) (hs := pathL hs i) hown (path_32 hs.length hs i (Nat.le_refl _) hS.len32)⟩, hb⟩
def pathX (hs : List (List UInt8)) (i : Int) : List (List UInt8) := if inN i hs.length then pathL hs i.toNat else []
def pathE (hs : List (List UInt8)) (i : Int) : Int := if inN i hs.length then 0 else 2
theorem pathX_len (hs : List (List UInt8)) (i : Int) (hl : hs.length ≤ 1000000) : (pathX hs i).length ≤ 20 := by
  unfold pathX; split
  · rename_i h
    obtain ⟨h1, h2⟩ := h
    exact path_len hs i.toNat 20 (by omega) (by omega)
  · simp
theorem slNil (w : World) : SlAt w 32 (.slice none 0 0) (hcs []) := ⟨Option.none, 0, rfl, Nat.le_refl _, fun _ h => by simp [hcs] at h, fun i cs h => by simp [hcs] at h⟩
theorem path_any (v : Value) (hs : List (List UInt8)) (i : Int) (w : World) (hS : SlAt w 32 v (hcs hs)) (hl : hs.length ≤ 1000000) (hG : ShaG w) :
    Calls Tryd.prog 56 #[v, .int .i64 i] w fun e w' => (∃ u, e = .returned (.tuple #[u, .int .i64 (pathE hs i)]) ∧ SlAt w' 32 u (hcs (pathX hs i))) ∧ Below w.heap.size w w' := by
  unfold pathE pathX
  by_cases h : inN i hs.length
  · obtain ⟨h1, h2⟩ := id h
    obtain ⟨a, rfl⟩ : ∃ a : Nat, i = a := ⟨i.toNat, by omega⟩
    rw [if_pos h, if_pos h]
    exact path_sl v hs a w hS hl (by omega) hG
  · rw [if_neg h, if_neg h]
    exact (path_out v hs i w hS hl h).mono fun _ _ ⟨a, b⟩ => ⟨⟨_, a, slNil _⟩, b⟩
theorem rpath_any (v : Value) (hs : List (List UInt8)) (i : Int) (w : World) (hS : SlAt w 32 v (hcs hs)) (hl : hs.length ≤ 1000000) :
    Calls Tryd.prog 46 #[v, .int .i64 i] w fun e w' => (∃ u, e = .returned (.tuple #[u, .int .i64 (pathE hs i)]) ∧ SlAt w' 32 u (hcs (pathX hs i))) ∧ Below w.heap.size w w' := by
  unfold pathE pathX
  by_cases h : inN i hs.length
  · obtain ⟨h1, h2⟩ := id h
    obtain ⟨a, rfl⟩ : ∃ a : Nat, i = a := ⟨i.toNat, by omega⟩
    rw [if_pos h, if_pos h]
    exact (rpath_at _ hs v a w (Nat.le_refl _) hl hS (by omega)).mono fun _ _ ⟨⟨u, he, hown⟩, hb⟩ => ⟨⟨u, he, SlAt.of_owns (size := 32) (hs := pathL hs a) hown (path_32 hs.length hs a (Nat.le_refl _) hS.len32)⟩, hb⟩
  · rw [if_neg h, if_neg h]
    exact (rpath_out v hs i w hS hl h).mono fun _ _ ⟨a, b⟩ => ⟨⟨_, a, slNil _⟩, b⟩
end Go.Proofs.YtbpjlancjdbehaaDoor
