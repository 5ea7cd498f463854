/- speculum/trees.Root$1: the long way -/
import Derived.Test.YtdllaenbkfajdaaDoorTreeRootC
import Derived.Test.YtdllaenbkfajdaaDoorZero
set_option maxRecDepth 100000
namespace Go.Proofs.YtdllaenbkfajdaaDoor
open Go.RowKit Go.Spec
abbrev rootFn (gl gr : Nat) : Value := .func (.func 35) #[] #[.pointer (some ⟨gl, 0, none⟩), .pointer (some ⟨gr, 0, none⟩)]
def RootCAt (hs : List (List UInt8)) (v : Value) (gl gr : Nat) (n : Nat) : Prop := ∀ (i j : Nat) (w : World), j - i ≤ n → i < j → j ≤ hs.length → ShaG w → SlAt w 32 v (hcs hs) →
    Blk w gl #[v] 22 → Blk w gr #[rootFn gl gr] 53 →
    Calls Tryd.prog 35 #[.int .i64 (i : Int), .int .i64 (j : Int), .pointer (some ⟨gl, 0, none⟩), .pointer (some ⟨gr, 0, none⟩)] w fun e w' => e = .returned (hv (rootL (piece hs i j))) ∧ Below w.heap.size w w'
set_option maxHeartbeats 2000000 in
theorem rootc_many (hs : List (List UInt8)) (v : Value) (gl gr n : Nat) (ih : RootCAt hs v gl gr n) (i j : Nat) (w : World) (hn : j - i ≤ n + 1) (hl : hs.length ≤ 1000000) (h2 : i + 2 ≤ j) (hj : j ≤ hs.length) (hG : ShaG w) (hS : SlAt w 32 v (hcs hs))
    (hL : Blk w gl #[v] 22) (hR : Blk w gr #[rootFn gl gr] 53) :
    Calls Tryd.prog 35 #[.int .i64 (i : Int), .int .i64 (j : Int), .pointer (some ⟨gl, 0, none⟩), .pointer (some ⟨gr, 0, none⟩)] w fun e w' => e = .returned (hv (rootL (piece hs i j))) ∧ Below w.heap.size w w' := by
  have HG := hid hG
  obtain ⟨hk0, hk1⟩ := splitN_in (j - i) (by omega)
  have plen := piece_len hs i j hj
  have Hroot := hid (rootL_many (piece hs i j) (by omega))
  rw [plen] at Hroot
  have HB : Below w.heap.size w (w.alloc (.cells (hc zero32) 25)) := (Below.refl _ w).alloc (Nat.le_refl _) _
  have hZ : Blk (w.alloc (.cells (hc zero32) 25)) w.heap.size (hc zero32) 25 := Blk.new _ _ _
  have Hsp := hid (fun w0 => split_big (j - i) w0 (by omega) (by omega))
  have esub : (j : Int) - (i : Int) = ((j - i : Nat) : Int) := by omega
  have h32 := hS.len32
  generalize splitN (j - i) = k at *
  rw [piece_take hs i j k (by omega), piece_drop hs i j k (by omega)] at Hroot
  have Hl := hid (And.intro (rootL_len _ (piece hs i (i + k)) (Nat.le_refl _) (fun x hx => h32 x (piece_mem hx))) (rootL_len _ (piece hs (i + k) j) (Nat.le_refl _) (fun x hx => h32 x (piece_mem hx))))
  have ih1 := ih i (i + k)
  have ih2 := ih (i + k) j
  generalize rootL (piece hs i (i + k)) = ra at *
  generalize rootL (piece hs (i + k) j) = rd at *
  generalize rootL (piece hs i j) = r at *
  have eadd : (i : Int) + (k : Int) = ((i + k : Nat) : Int) := by omega
  have e0 : ((k : Int) == 0) = false := beq_eq_false_iff_ne.mpr (by omega)
  have hjl : (j : Int) ≤ 1000000 := by omega
  generalize hm : i + k = m at *
  have ew : IntKind.i64.wrap ((m : Nat) : Int) = (m : Int) := IntWalk.i64_in _ (by omega)
  have Hs := hid (show (Tryd.prog.info? 25).map (·.size) = some (hc r).size by rw [hc_size, Hroot.out, nodeL_len]; exact Tryd.sizeHash)
  have Hz := hid (show (hc r).size = (hc zero32).size by rw [hc_size, Hroot.out, nodeL_len]; rfl)
  have hs3 := Tryd.sizeHash
  generalize hd : j - i = d at *
  go_enter Tryd.func35, Tryd.ntmps35
  go_wp2_with (go_at_call 17; refine (Hsp.out _).mono ?_; rintro e w1 ⟨rfl, rfl⟩)
  show (Code.region _ _ _).wp _ _ _ (w.alloc (.cells (hc zero32) 25))
  have hL0 := hL.later HB
  have hR0 := hR.later HB
  have hS0 := hS.below HB (Nat.le_refl _)
  have HG0 := HG.out.later HB
  generalize hw0 : w.alloc (.cells (hc zero32) 25) = w0 at *
  have hRc : ∀ x : Later w0, (lat x).cell? ⟨gr, 0, none⟩ = some (rootFn gl gr) := fun x => Blk.cell1 (hR0.later (lat_below x))
  have Hc1 := hid (fun x : Later w0 => ih1 (lat x) (by omega) (by omega) (by omega) (HG0.later (lat_below x)) (hS0.below (lat_below x) (Nat.le_refl _)) (hL0.later (lat_below x)) (hR0.later (lat_below x)))
  have Hc2 := hid (fun x : Later w0 => ih2 (lat x) (by omega) (by omega) (by omega) (HG0.later (lat_below x)) (hS0.below (lat_below x) (Nat.le_refl _)) (hL0.later (lat_below x)) (hR0.later (lat_below x)))
  have HG1 := hid HG0
  have HZ := hid hZ
  clear ih ih1 ih2 hL hR hL0 hR0 hS hS0 HG0 hG h32 hZ hw0
  refine wp_region_later_tail 13 (by kernel_rfl) (by kernel_rfl) ?_
  simp only [List.take_succ_cons, List.take_zero, List.drop_succ_cons, List.drop_zero]
  repeat (first
    | (refine wpQuiet_load_one rfl 53 _ rfl ⟨gr, 0, none⟩ rfl (rootFn gl gr) _ (by rintro _ ⟨q, rfl⟩; exact hRc q) Tryd.underlying53 rfl ?_; simp only [Act.put, List.setIfInBounds_toArray, List.set_cons_succ, List.set_cons_zero])
    | go_big_quiet_step ((first | (go_at_call 35; with_reducible exact calls_later (Hc1.out _)) | (go_at_call 35; with_reducible exact calls_later (Hc2.out _)) | (go_at_call 16; with_reducible exact calls_later (node_any ra rd _ Hl.out.1 Hl.out.2 (HG1.out.later (lat_below _)))))))
  refine wpQuiet_nil ?_
  rintro _ ⟨q1, rfl⟩
  have hb1 := lat_below q1
  generalize lat q1 = w1 at *
  rw [← Hroot.out]
  replace HZ := hid (HZ.out.later hb1)
  replace HB := bth HB hb1
  refine wpList_store_blk rfl 25 _ _ rfl w.heap.size rfl (hc r) rfl _ _ HZ.out Hz.out Hs.out (hc_row_one _) ?_
  refine wpList_nil ?_
  go_wp2
  refine bodyPost_ret (results_cell_row rfl _ _ w.heap.size 25 _ (0, 0) _ rfl (HZ.out.setRow) Tryd.underlying25 rfl Hs.out) rfl ⟨rfl, ?_⟩
  exact HB.setRow (by omega) _
theorem rootc_at (hs : List (List UInt8)) (v : Value) (gl gr : Nat) (hl : hs.length ≤ 1000000) (n : Nat) : RootCAt hs v gl gr n := by
  induction n with
  | zero => intro i j w hn hij; omega
  | succ n ih =>
    intro i j w hn hij hj hG hS hL hR
    by_cases h2 : i + 2 ≤ j
    · exact rootc_many hs v gl gr n ih i j w hn hl h2 hj hG hS hL hR
    · obtain rfl : j = i + 1 := by omega
      rw [piece_one hs i (by omega), rootL_one]
      exact rootc_one hs v (rootFn gl gr) gl gr i w hl (by omega) hS hL
theorem rootc_any (hs : List (List UInt8)) (v : Value) (gl gr : Nat) (w : World) (hl : hs.length ≤ 1000000) (h0 : 0 < hs.length) (hG : ShaG w) (hS : SlAt w 32 v (hcs hs))
    (hL : Blk w gl #[v] 22) (hR : Blk w gr #[rootFn gl gr] 53) :
    Calls Tryd.prog 35 #[.int .i64 0, .int .i64 (hs.length : Int), .pointer (some ⟨gl, 0, none⟩), .pointer (some ⟨gr, 0, none⟩)] w fun e w' => e = .returned (hv (rootL hs)) ∧ Below w.heap.size w w' := by
  have := rootc_at hs v gl gr hl hs.length 0 hs.length w (by omega) h0 (Nat.le_refl _) hG hS hL hR
  rw [piece_all] at this
  exact this
end Go.Proofs.YtdllaenbkfajdaaDoor
