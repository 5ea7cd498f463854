/- speculumref04.Root -/
import Derived.Test.YtbpjlancjdbehaaDoorQShaRefSum
import Derived.Test.YtbpjlancjdbehaaDoorQSlices
import Derived.Test.YtbpjlancjdbehaaDoorQTreeLaw
import Derived.Test.YtbpjlancjdbehaaDoorQTreeNode

set_option maxRecDepth 100000
namespace Go.Proofs.YtbpjlancjdbehaaDoor
open Go.RowKit Go.Spec
def RRootAt (n : Nat) : Prop := ∀ (hs : List (List UInt8)) (v : Value) (w : World), hs.length ≤ n → hs.length ≤ 1000000 → SlAt w 32 v (hcs hs) →
    Calls Tryd.prog 42 #[v] w fun e w' => e = .returned (hv (rootL hs)) ∧ Below w.heap.size w w'
theorem hcs_take (hs : List (List UInt8)) (k : Nat) : (hcs hs).take k = hcs (hs.take k) := by simp [hcs, List.map_take]
theorem hcs_drop (hs : List (List UInt8)) (k : Nat) : (hcs hs).drop k = hcs (hs.drop k) := by simp [hcs, List.map_drop]
set_option maxHeartbeats 2000000 in
theorem rroot_many (n : Nat) (ih : RRootAt n) (hs : List (List UInt8)) (v : Value) (w : World) (hn : hs.length ≤ n + 1) (hl : hs.length ≤ 1000000) (h2 : 2 ≤ hs.length) (hS : SlAt w 32 v (hcs hs)) :
    Calls Tryd.prog 42 #[v] w fun e w' => e = .returned (hv (rootL hs)) ∧ Below w.heap.size w w' := by
  obtain ⟨a, cap, rfl, hcap⟩ := hS.formH
  obtain ⟨b, o, rfl, hblt⟩ := hS.addr (by rw [hcs_length]; omega)
  obtain ⟨hk0, hk1⟩ := splitN_in hs.length h2
  have Hroot := hid (rootL_many hs h2)
  have HB : Below w.heap.size w (w.alloc (.cells (hc zero32) 29)) := (Below.refl _ w).alloc (Nat.le_refl _) _
  have hZ : Blk (w.alloc (.cells (hc zero32) 29)) w.heap.size (hc zero32) 29 := Blk.new _ _ _
  have d0 : ((hs.length : Int) == 0) = false := beq_eq_false_iff_ne.mpr (by omega)
  have d1 : ((hs.length : Int) == 1) = false := beq_eq_false_iff_ne.mpr (by omega)
  have hT := hS.takeS (splitN hs.length) (by rw [hcs_length]; omega)
  have hD := hS.dropS (splitN hs.length) (by rw [hcs_length]; exact hk1)
  rw [hcs_take] at hT
  rw [hcs_drop] at hD
  have H32 := hid hS.len32
  have Hsp := hid (fun w0 => rsplit_big hs.length w0 h2 (Nat.le_trans hl (by decide)))
  have hlt1 : (hs.take (splitN hs.length)).length ≤ n := by rw [List.length_take]; omega
  have hlt2 : (hs.drop (splitN hs.length)).length ≤ n := by rw [List.length_drop]; omega
  have lt1 := rootL_len _ (hs.take (splitN hs.length)) (Nat.le_refl _) (fun x hx => H32.out x (List.mem_of_mem_take hx))
  have lt2 := rootL_len _ (hs.drop (splitN hs.length)) (Nat.le_refl _) (fun x hx => H32.out x (List.mem_of_mem_drop hx))
  have hT1 := hT.below HB (Nat.le_refl _)
  have hD1 := hD.below HB (Nat.le_refl _)
  have hl1 : (hs.take (splitN hs.length)).length ≤ 1000000 := by rw [List.length_take]; omega
  have hl2 : (hs.drop (splitN hs.length)).length ≤ 1000000 := by rw [List.length_drop]; omega
  generalize hs.take (splitN hs.length) = A at *
  generalize hs.drop (splitN hs.length) = D at *
  generalize splitN hs.length = k at *
  have Hl := hid (And.intro lt1 lt2)
  have Hs := hid (show (Tryd.prog.info? 29).map (·.size) = some (hc (rootL hs)).size by rw [hc_size, Hroot.out, nodeL_len]; exact Tryd.sizeHash)
  have Hz := hid (show (hc (rootL hs)).size = (hc zero32).size by rw [hc_size, Hroot.out, nodeL_len]; rfl)
  have kI : (k : Int) ≤ (hs.length : Int) := by omega
  have hkc : k ≠ cap := by omega
  have hs3 := Tryd.sizeHash
  clear lt1 lt2 hT hD hS
  go_enter Tryd.func42, Tryd.ntmps42
  go_wp2_with (go_at_call 67; refine (Hsp.out _).mono ?_; rintro e w1 ⟨rfl, rfl⟩)
  refine wp_region_anyw (by kernel_rfl) ?_
  intro w0 he0 hb0
  replace HB := bth HB hb0
  replace hZ := hZ.heap (w' := w0) he0
  have hT2 := hT1.below hb0 (Nat.le_refl _)
  have hD2 := hD1.below hb0 (Nat.le_refl _)
  show wpAny _ _ _ _ 10 (Array.replicate 10 false) _ _
  refine wpAny_take (i := 0) (v := .slice (some ⟨b, o, none⟩) hs.length cap) rfl (by kernel_rfl) (by kernel_rfl) (by kernel_rfl) (fun _ _ _ h => h) (Or.inl ⟨by rfl, ?_⟩) ?_
  · intro w; go_simp
    try omega
  refine wpAny_take (i := 1) (v := .int .i64 (k : Int)) rfl (by kernel_rfl) (by kernel_rfl) (by kernel_rfl) (fun _ _ _ h => h) (Or.inl ⟨by rfl, ?_⟩) ?_
  · intro w; go_simp
    try omega
  refine wpAny_take (i := 2) (v := .slice (some ⟨b, o, none⟩) k cap) rfl (by kernel_rfl) (by kernel_rfl) (by kernel_rfl) (fun _ _ _ h => h) (Or.inl ⟨by rfl, ?_⟩) ?_
  · intro w; go_simp
    try omega
  refine wpAny_take (i := 4) (v := .slice (some ⟨b, o, none⟩) hs.length cap) rfl (by kernel_rfl) (by kernel_rfl) (by kernel_rfl) (fun _ _ _ h => h) (Or.inl ⟨by rfl, ?_⟩) ?_
  · intro w; go_simp
    try omega
  refine wpAny_take (i := 5) (v := .int .i64 (k : Int)) rfl (by kernel_rfl) (by kernel_rfl) (by kernel_rfl) (fun _ _ _ h => h) (Or.inl ⟨by rfl, ?_⟩) ?_
  · intro w; go_simp
    try omega
  refine wpAny_take (i := 6) (v := .slice (some ⟨b, o + k * 32, none⟩) (hs.length - k) (cap - k)) rfl (by kernel_rfl) (by kernel_rfl) (by kernel_rfl) (fun _ _ _ h => h) (Or.inl ⟨by rfl, ?_⟩) ?_
  · intro w; go_simp
    try omega
  refine wpAny_forced (i := 3) (by kernel_rfl) rfl ?_
  go_wp2_with (go_at_call 42; refine (ih A _ _ hlt1 hl1 hT2).mono ?_; rintro e w1 ⟨rfl, hb1⟩)
  replace HB := bth HB hb1
  replace hZ := hZ.later hb1
  have hD3 := hD2.below hb1 (Nat.le_refl _)
  refine wpAny_forced (i := 7) (by kernel_rfl) rfl ?_
  go_wp2_with (go_at_call 42; refine (ih D _ _ hlt2 hl2 hD3).mono ?_; rintro e w2 ⟨rfl, hb2⟩)
  replace HB := bth HB hb2
  replace hZ := hZ.later hb2
  refine wpAny_forced (i := 8) (by kernel_rfl) rfl ?_
  go_wp2_with (go_at_call 68; refine (rnode_any (rootL A) (rootL D) _ Hl.out.1 Hl.out.2).mono ?_; rintro e w3 ⟨rfl, hb3⟩)
  replace HB := bth HB hb3
  replace hZ := hZ.later hb3
  rw [← Hroot.out]
  refine wpAny_forced (i := 9) (by kernel_rfl) rfl ?_
  refine wpList_store_blk rfl 29 _ _ rfl w.heap.size rfl (hc (rootL hs)) rfl _ _ hZ Hz.out Hs.out (hc_row_one _) ?_
  refine wpList_nil ?_
  refine wpAny_done (by kernel_rfl) ?_ _
  go_wp2
  refine bodyPost_ret (results_cell_row rfl _ _ w.heap.size 29 _ (0, 0) _ rfl (hZ.setRow) Tryd.underlying29 rfl Hs.out) rfl ⟨rfl, ?_⟩
  exact HB.setRow (by omega) _
end Go.Proofs.YtbpjlancjdbehaaDoor
/- speculumref04.Root: the short ways, and the whole -/
namespace Go.Proofs.YtbpjlancjdbehaaDoor
open Go.RowKit Go.Spec
set_option maxHeartbeats 2000000 in
theorem rroot_nil (v : Value) (w : World) (hS : SlAt w 32 v (hcs [])) :
    Calls Tryd.prog 42 #[v] w fun e w' => e = .returned (hv (sumL [])) ∧ Below w.heap.size w w' := by
  obtain ⟨a, cap, rfl, hcap⟩ := hS.formH
  have HB : Below w.heap.size w (w.alloc (.cells (hc zero32) 29)) := (Below.refl _ w).alloc (Nat.le_refl _) _
  have hZ : Blk (w.alloc (.cells (hc zero32) 29)) w.heap.size (hc zero32) 29 := Blk.new _ _ _
  clear hS
  rw [show ([] : List (List UInt8)).length = 0 from rfl]
  have d0 : (((0 : Nat) : Int) == 0) = true := rfl
  have hs3 := Tryd.sizeHash
  have Hx := hid (sumL_len [])
  have Hs := hid (show (Tryd.prog.info? 29).map (·.size) = some (hc (sumL [])).size by rw [hc_size, sumL_len]; exact Tryd.sizeHash)
  have Hz := hid (show (hc (sumL [])).size = (hc zero32).size by rw [hc_size, sumL_len]; rfl)
  have Hsum := hid (fun w0 => rsum_any [] w0 (by decide))
  generalize sumL [] = S at *
  go_enter Tryd.func42, Tryd.ntmps42
  go_wp2_with (first
    | (refine wpList_store_blk rfl 29 _ _ rfl w.heap.size rfl (hc S) rfl _ _ (hZ.later hb1) Hz.out Hs.out (hc_row_one _) ?_)
    | (go_at_call 66; refine (Hsum.out _).mono ?_; rintro e w1 ⟨rfl, hb1⟩))
  replace HB := bth HB hb1
  replace hZ := hZ.later hb1
  refine bodyPost_ret (results_cell_row rfl _ _ w.heap.size 29 _ (0, 0) _ rfl (hZ.setRow) Tryd.underlying29 rfl Hs.out) rfl ⟨rfl, ?_⟩
  exact HB.setRow (by omega) _
set_option maxHeartbeats 2000000 in
theorem rroot_one (x : List UInt8) (v : Value) (w : World) (hS : SlAt w 32 v (hcs [x])) :
    Calls Tryd.prog 42 #[v] w fun e w' => e = .returned (hv x) ∧ Below w.heap.size w w' := by
  obtain ⟨a, cap, rfl, hcap⟩ := hS.formH
  have HB : Below w.heap.size w (w.alloc (.cells (hc zero32) 29)) := (Below.refl _ w).alloc (Nat.le_refl _) _
  have hZ : Blk (w.alloc (.cells (hc zero32) 29)) w.heap.size (hc zero32) 29 := Blk.new _ _ _
  have hx : x.length = 32 := hS.len32 x (by simp)
  have hS1 := hS.below HB (Nat.le_refl _)
  obtain ⟨b, o, rfl, hbl, hcl, hcell⟩ := hS1.at (i := 0) (cs := x.map bcell) (by simp [hcs])
  clear hS hS1
  rw [show o + 0 * 32 = o by omega] at hcell
  rw [show [x].length = 1 from rfl]
  have d0 : (((1 : Nat) : Int) == 0) = false := rfl
  have d1 : (((1 : Nat) : Int) == 1) = true := rfl
  have hs3 := Tryd.sizeHash
  have Hs := hid (show (Tryd.prog.info? 29).map (·.size) = some (hc x).size by rw [hc_size, hx]; exact Tryd.sizeHash)
  have Hz := hid (show (hc x).size = (hc zero32).size by rw [hc_size, hx]; rfl)
  have Hsx := hid (show (Tryd.prog.info? 29).map (·.size) = some x.length by rw [hx]; exact Tryd.sizeHash)
  have Hcell := hid hcell
  clear hcell hcl
  go_enter Tryd.func42, Tryd.ntmps42
  go_wp2_with (first
    | (refine wpList_load_hc rfl 29 _ rfl ⟨b, o, none⟩ rfl x _ Hcell.out Tryd.underlying29 rfl Hsx.out ?_)
    | (refine wpList_store_blk rfl 29 _ _ rfl w.heap.size rfl (hc x) rfl _ _ hZ Hz.out Hs.out (hc_row_one _) ?_))
  refine bodyPost_ret (results_cell_row rfl _ _ w.heap.size 29 _ (0, 0) _ rfl (hZ.setRow) Tryd.underlying29 rfl Hs.out) rfl ⟨rfl, ?_⟩
  exact HB.setRow (by omega) _
theorem rroot_at (n : Nat) : RRootAt n := by
  induction n with
  | zero =>
    intro hs v w hn hl hS
    obtain rfl : hs = [] := List.length_eq_zero_iff.mp (by omega)
    exact rroot_nil v w hS
  | succ n ih =>
    intro hs v w hn hl hS
    match hs, hn, hl, hS with
    | [], _, _, hS => exact rroot_nil v w hS
    | [x], _, _, hS => rw [rootL_one]; exact rroot_one x v w hS
    | x :: y :: l, hn, hl, hS => exact rroot_many n ih _ v w hn hl (by simp) hS
theorem rroot_any (hs : List (List UInt8)) (v : Value) (w : World) (hl : hs.length ≤ 1000000) (hS : SlAt w 32 v (hcs hs)) :
    Calls Tryd.prog 42 #[v] w fun e w' => e = .returned (hv (rootL hs)) ∧ Below w.heap.size w w' :=
  rroot_at hs.length hs v w (Nat.le_refl _) hl hS
end Go.Proofs.YtbpjlancjdbehaaDoor
