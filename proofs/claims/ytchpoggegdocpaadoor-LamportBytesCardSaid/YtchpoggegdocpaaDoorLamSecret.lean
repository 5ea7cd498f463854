/- lamport.Secret, shown; speculumref08.Secret -/
import Derived.Test.YtchpoggegdocpaaDoorLamRef
import Derived.Test.YtchpoggegdocpaaDoorSeq
import Derived.Test.YtchpoggegdocpaaDoorRef01
import Derived.Test.YtchpoggegdocpaaDoorShaPad
import Derived.Test.YtchpoggegdocpaaDoorShaRefSum
set_option maxRecDepth 100000
namespace Go.Proofs.YtchpoggegdocpaaDoor
open Go.RowKit Go.Spec
/-- a secret that is one -/
def secN (seed : List UInt8) (a b c : Nat) : List UInt8 := sumL (2 :: (numL seed.length ++ (seed ++ (beL a 4 ++ beL (2 * b + c) 2))))
def secIn (x i t : Int) : Prop := 0 ≤ x ∧ x < 2147483648 ∧ 0 ≤ i ∧ i < 256 ∧ 0 ≤ t ∧ t ≤ 1
instance (x i t : Int) : Decidable (secIn x i t) := by unfold secIn; infer_instance
def secL (seed : List UInt8) (x i t : Int) : List UInt8 := if secIn x i t then secN seed x.toNat i.toNat t.toNat else zero32
theorem secN_len (seed : List UInt8) (a b c : Nat) : (secN seed a b c).length = 32 := sumL_len _
theorem secL_len (seed : List UInt8) (x i t : Int) : (secL seed x i t).length = 32 := by
  unfold secL; split
  · exact secN_len _ _ _ _
  · rfl
set_option maxHeartbeats 2000000 in
theorem secret_in (seed : List UInt8) (a b c : Nat) (w : World) (hs : seed.length ≤ 1000000) (hia : a < 2147483648) (hib : b < 256) (hic : c ≤ 1) (hG : ShaG w) :
    Calls Tryd.prog 20 #[sv seed, .int .i64 (a : Int), .int .i64 (b : Int), .int .i64 (c : Int)] w fun e w' => e = .returned (hv (secN seed a b c)) ∧ Below w.heap.size w w' := by
  have HG := hid hG; clear hG
  have d1 : decide ((a : Int) < 0) = false := by simp
  have d2 : decide ((2147483648 : Int) ≤ (a : Int)) = false := by simp; omega
  have d3 : decide ((b : Int) < 0) = false := by simp
  have d4 : decide ((256 : Int) ≤ (b : Int)) = false := by simp; omega
  have d5 : decide ((c : Int) < 0) = false := by simp
  have d6 : decide ((1 : Int) < (c : Int)) = false := by simp; omega
  have HB : Below w.heap.size w (w.alloc (.cells (hc zero32) 42)) := (Below.refl _ w).alloc (Nat.le_refl _) _
  have hZ : Blk (w.alloc (.cells (hc zero32) 42)) w.heap.size (hc zero32) 42 := Blk.new _ _ _
  have hn10 := numL_len seed.length (by omega)
  have T := hid (fun w0 => text_any seed w0 (by omega))
  obtain ⟨m, hm⟩ : ∃ m, 2 * b + c = m := ⟨_, rfl⟩
  have em : 2 * (b : Int) + (c : Int) = (m : Int) := by omega
  have hm2 : m ≤ 1000 := by omega
  have P1 := hid (fun w0 => put_any a 4 w0 (by omega) (by omega) (by omega))
  have P2 := hid (fun w0 => put_any m 2 w0 (by omega) (by omega) (by omega))
  have Hres := hid (show sumL (2 :: (numL seed.length ++ (seed ++ (beL a 4 ++ beL m 2)))) = secN seed a b c by rw [← hm]; rfl)
  have S := hid (fun w0 h0 => sum_any (2 :: (numL seed.length ++ (seed ++ (beL a 4 ++ beL m 2)))) w0 (by simp [beL_len]; omega) h0)
  rw [Hres.out] at S
  have hl := secN_len seed a b c
  have Hs := hid (show (Tryd.prog.info? 42).map (·.size) = some (hc (secN seed a b c)).size by rw [hc_size, hl]; exact Tryd.sizeHash)
  have Hz := hid (show (hc (secN seed a b c)).size = (hc zero32).size by rw [hc_size, hl]; rfl)
  have h4 := beL_len a 4
  have h2 := beL_len m 2
  clear hm Hres hl
  generalize secN seed a b c = R at *
  generalize numL seed.length = N at *
  generalize beL a 4 = A4 at *
  generalize beL m 2 = M2 at *
  go_enter Tryd.func20, Tryd.ntmps20
  go_upto_region 3 with (fail)
  show Code.wp _ _ _ _ (w.alloc (.cells (hc zero32) 42))
  generalize hw0 : w.alloc (.cells (hc zero32) 42) = w0 at *
  clear hw0
  have HG0 := hid (HG.out.later HB)
  have HZ := hid hZ; clear hZ
  refine wp_region_seq_later_tail 15 ?_
  simp only [List.take_succ_cons, List.take_zero, List.drop_succ_cons, List.drop_zero]
  repeat go_big_quiet_step ((first | (go_at_call 42; with_reducible exact calls_later (T.out _)) | (go_at_call 43; with_reducible exact calls_later (P1.out _)) | (go_at_call 43; with_reducible exact calls_later (P2.out _)) | (go_at_call 41; with_reducible exact calls_later (S.out _ (HG0.out.later (lat_below _))))))
  refine wpQuiet_nil ?_
  rintro _ ⟨q1, rfl⟩
  have hb1 := lat_below q1
  generalize lat q1 = w1 at *
  have hZ1 := HZ.out.later hb1
  refine wpList_store_blk rfl 42 _ _ rfl w.heap.size rfl (hc R) rfl _ _ hZ1 Hz.out Hs.out (hc_row_one _) ?_
  refine wpList_nil ?_
  go_wp2
  refine bodyPost_ret (results_cell_row rfl _ _ w.heap.size 42 _ (0, 0) _ rfl (hZ1.setRow) Tryd.underlying42 rfl Hs.out) rfl ⟨rfl, ?_⟩
  exact (bth HB hb1).setRow (by omega) _

set_option maxHeartbeats 2000000 in
theorem rsecret_in (seed : List UInt8) (a b c : Nat) (w : World) (hs : seed.length ≤ 1000000) (hia : a < 2147483648) (hib : b < 256) (hic : c ≤ 1) :
    Calls Tryd.prog 21 #[sv seed, .int .i64 (a : Int), .int .i64 (b : Int), .int .i64 (c : Int)] w fun e w' => e = .returned (hv (secN seed a b c)) ∧ Below w.heap.size w w' := by
  have d1 : decide ((a : Int) < 0) = false := by simp
  have d2 : decide ((2147483647 : Int) < (a : Int)) = false := by simp; omega
  have d3 : decide ((b : Int) < 0) = false := by simp
  have d4 : decide ((255 : Int) < (b : Int)) = false := by simp; omega
  have HB : Below w.heap.size w (w.alloc (.cells (hc zero32) 42)) := (Below.refl _ w).alloc (Nat.le_refl _) _
  have hZ : Blk (w.alloc (.cells (hc zero32) 42)) w.heap.size (hc zero32) 42 := Blk.new _ _ _
  have hn10 := numL_len seed.length (by omega)
  have T := hid (fun w0 => rtext_any seed w0 (by omega))
  obtain ⟨m, hm⟩ : ∃ m, 2 * b + c = m := ⟨_, rfl⟩
  have em : 2 * (b : Int) + (c : Int) = (m : Int) := by omega
  have hm2 : m ≤ 1000 := by omega
  have P1 := hid (fun w0 => rput_any a 4 w0 (by omega) (by omega))
  have P2 := hid (fun w0 => rput_any m 2 w0 (by omega) (by omega))
  have Hres := hid (show sumL (2 :: (numL seed.length ++ (seed ++ (beL a 4 ++ beL m 2)))) = secN seed a b c by rw [← hm]; rfl)
  have S := hid (fun w0 => rsum_any (2 :: (numL seed.length ++ (seed ++ (beL a 4 ++ beL m 2)))) w0 (by simp [beL_len]; omega))
  rw [Hres.out] at S
  have hl := secN_len seed a b c
  have Hs := hid (show (Tryd.prog.info? 42).map (·.size) = some (hc (secN seed a b c)).size by rw [hc_size, hl]; exact Tryd.sizeHash)
  have Hz := hid (show (hc (secN seed a b c)).size = (hc zero32).size by rw [hc_size, hl]; rfl)
  have h4 := beL_len a 4
  have h2 := beL_len m 2
  clear hm Hres hl
  generalize secN seed a b c = R at *
  generalize numL seed.length = N at *
  generalize beL a 4 = A4 at *
  generalize beL m 2 = M2 at *
  have dc : (((c : Int) != 0) = false) ∨ (((c : Int) != 0) = true ∧ ((c : Int) != 1) = false) := by
    rcases Nat.lt_or_ge c 1 with h | h
    · left; simp; omega
    · right; simp; omega
  go_enter Tryd.func21, Tryd.ntmps21
  rcases dc with dc | ⟨dc, dc1⟩
  all_goals
    go_upto_region 3 with (fail)
    show Code.wp _ _ _ _ (w.alloc (.cells (hc zero32) 42))
    generalize hw0 : w.alloc (.cells (hc zero32) 42) = w0 at *
    clear hw0
    have HZ := hid hZ; clear hZ
    refine wp_region_seq_later_tail 15 ?_
    simp only [List.take_succ_cons, List.take_zero, List.drop_succ_cons, List.drop_zero]
    repeat go_big_quiet_step ((first | (go_at_call 44; with_reducible exact calls_later (T.out _)) | (go_at_call 31; with_reducible exact calls_later (P1.out _)) | (go_at_call 31; with_reducible exact calls_later (P2.out _)) | (go_at_call 32; with_reducible exact calls_later (S.out _))))
    refine wpQuiet_nil ?_
    rintro _ ⟨q1, rfl⟩
    have hb1 := lat_below q1
    generalize lat q1 = w1 at *
    have hZ1 := HZ.out.later hb1
    refine wpList_store_blk rfl 42 _ _ rfl w.heap.size rfl (hc R) rfl _ _ hZ1 Hz.out Hs.out (hc_row_one _) ?_
    refine wpList_nil ?_
    go_wp2
    refine bodyPost_ret (results_cell_row rfl _ _ w.heap.size 42 _ (0, 0) _ rfl (hZ1.setRow) Tryd.underlying42 rfl Hs.out) rfl ⟨rfl, ?_⟩
    exact (bth HB hb1).setRow (by omega) _

theorem not_secIn {x i t : Int} (h : ¬ secIn x i t) : x < 0 ∨ (0 ≤ x ∧ 2147483648 ≤ x) ∨ ((0 ≤ x ∧ x < 2147483648) ∧ i < 0) ∨ ((0 ≤ x ∧ x < 2147483648) ∧ 0 ≤ i ∧ 256 ≤ i) ∨ ((0 ≤ x ∧ x < 2147483648) ∧ (0 ≤ i ∧ i < 256) ∧ t < 0) ∨ ((0 ≤ x ∧ x < 2147483648) ∧ (0 ≤ i ∧ i < 256) ∧ 0 ≤ t ∧ 1 < t) := by
  unfold secIn at h; omega
set_option maxHeartbeats 2000000 in
theorem secret_out (seed : List UInt8) (x i t : Int) (w : World) (h : ¬ secIn x i t) :
    Calls Tryd.prog 20 #[sv seed, .int .i64 x, .int .i64 i, .int .i64 t] w fun e w' => e = .returned (hv zero32) ∧ Below w.heap.size w w' := by
  have HB : Below w.heap.size w (w.alloc (.cells (hc zero32) 42)) := (Below.refl _ w).alloc (Nat.le_refl _) _
  have hZ : Blk (w.alloc (.cells (hc zero32) 42)) w.heap.size (hc zero32) 42 := Blk.new _ _ _
  have Hs := hid (show (Tryd.prog.info? 42).map (·.size) = some (hc zero32).size by kernel_rfl)
  have H := not_secIn h
  clear h
  rcases H with h | ⟨h1, h2⟩ | ⟨⟨h1, h2⟩, h3⟩ | ⟨⟨h1, h2⟩, h3, h4⟩ | ⟨⟨h1, h2⟩, ⟨h3, h4⟩, h5⟩ | ⟨⟨h1, h2⟩, ⟨h3, h4⟩, h5, h6⟩
  · have _d424 : decide (x < 0) = true := by simp; omega
    go_enter Tryd.func20, Tryd.ntmps20
    go_wp2_with (first
      | ((with_reducible show wpList _ _ _ ({ dst := _, op := Op.build _ _, type := _, pos := _, after := _, guard := _ } :: _) _ _); refine wpList_build0 rfl 42 rfl (hv zero32) (Tryd.zeroHash _) ?_)
      | ((with_reducible show wpList _ _ _ ({ dst := _, op := Op.store _ _ _, type := _, pos := _, after := _, guard := _ } :: _) _ _); refine wpList_store_blk rfl 42 _ _ rfl w.heap.size rfl (hc zero32) rfl _ _ hZ rfl Hs.out (hc_row_one _) ?_))
    refine bodyPost_ret (results_cell_row rfl _ _ w.heap.size 42 _ (0, 0) _ rfl (hZ.setRow) Tryd.underlying42 rfl Hs.out) rfl ⟨rfl, ?_⟩
    exact HB.setRow (by omega) _
  · have _d424 : decide (x < 0) = false := by simp; omega
    have _d226 : decide (2147483648 ≤ x) = true := by simp; omega
    go_enter Tryd.func20, Tryd.ntmps20
    go_wp2_with (first
      | ((with_reducible show wpList _ _ _ ({ dst := _, op := Op.build _ _, type := _, pos := _, after := _, guard := _ } :: _) _ _); refine wpList_build0 rfl 42 rfl (hv zero32) (Tryd.zeroHash _) ?_)
      | ((with_reducible show wpList _ _ _ ({ dst := _, op := Op.store _ _ _, type := _, pos := _, after := _, guard := _ } :: _) _ _); refine wpList_store_blk rfl 42 _ _ rfl w.heap.size rfl (hc zero32) rfl _ _ hZ rfl Hs.out (hc_row_one _) ?_))
    refine bodyPost_ret (results_cell_row rfl _ _ w.heap.size 42 _ (0, 0) _ rfl (hZ.setRow) Tryd.underlying42 rfl Hs.out) rfl ⟨rfl, ?_⟩
    exact HB.setRow (by omega) _
  · have _d424 : decide (x < 0) = false := by simp; omega
    have _d226 : decide (2147483648 ≤ x) = false := by simp; omega
    have _d615 : decide (i < 0) = true := by simp; omega
    go_enter Tryd.func20, Tryd.ntmps20
    go_wp2_with (first
      | ((with_reducible show wpList _ _ _ ({ dst := _, op := Op.build _ _, type := _, pos := _, after := _, guard := _ } :: _) _ _); refine wpList_build0 rfl 42 rfl (hv zero32) (Tryd.zeroHash _) ?_)
      | ((with_reducible show wpList _ _ _ ({ dst := _, op := Op.store _ _ _, type := _, pos := _, after := _, guard := _ } :: _) _ _); refine wpList_store_blk rfl 42 _ _ rfl w.heap.size rfl (hc zero32) rfl _ _ hZ rfl Hs.out (hc_row_one _) ?_))
    refine bodyPost_ret (results_cell_row rfl _ _ w.heap.size 42 _ (0, 0) _ rfl (hZ.setRow) Tryd.underlying42 rfl Hs.out) rfl ⟨rfl, ?_⟩
    exact HB.setRow (by omega) _
  · have _d424 : decide (x < 0) = false := by simp; omega
    have _d226 : decide (2147483648 ≤ x) = false := by simp; omega
    have _d615 : decide (i < 0) = false := by simp; omega
    have _d609 : decide (256 ≤ i) = true := by simp; omega
    go_enter Tryd.func20, Tryd.ntmps20
    go_wp2_with (first
      | ((with_reducible show wpList _ _ _ ({ dst := _, op := Op.build _ _, type := _, pos := _, after := _, guard := _ } :: _) _ _); refine wpList_build0 rfl 42 rfl (hv zero32) (Tryd.zeroHash _) ?_)
      | ((with_reducible show wpList _ _ _ ({ dst := _, op := Op.store _ _ _, type := _, pos := _, after := _, guard := _ } :: _) _ _); refine wpList_store_blk rfl 42 _ _ rfl w.heap.size rfl (hc zero32) rfl _ _ hZ rfl Hs.out (hc_row_one _) ?_))
    refine bodyPost_ret (results_cell_row rfl _ _ w.heap.size 42 _ (0, 0) _ rfl (hZ.setRow) Tryd.underlying42 rfl Hs.out) rfl ⟨rfl, ?_⟩
    exact HB.setRow (by omega) _
  · have _d424 : decide (x < 0) = false := by simp; omega
    have _d226 : decide (2147483648 ≤ x) = false := by simp; omega
    have _d615 : decide (i < 0) = false := by simp; omega
    have _d609 : decide (256 ≤ i) = false := by simp; omega
    have _d589 : decide (t < 0) = true := by simp; omega
    go_enter Tryd.func20, Tryd.ntmps20
    go_wp2_with (first
      | ((with_reducible show wpList _ _ _ ({ dst := _, op := Op.build _ _, type := _, pos := _, after := _, guard := _ } :: _) _ _); refine wpList_build0 rfl 42 rfl (hv zero32) (Tryd.zeroHash _) ?_)
      | ((with_reducible show wpList _ _ _ ({ dst := _, op := Op.store _ _ _, type := _, pos := _, after := _, guard := _ } :: _) _ _); refine wpList_store_blk rfl 42 _ _ rfl w.heap.size rfl (hc zero32) rfl _ _ hZ rfl Hs.out (hc_row_one _) ?_))
    refine bodyPost_ret (results_cell_row rfl _ _ w.heap.size 42 _ (0, 0) _ rfl (hZ.setRow) Tryd.underlying42 rfl Hs.out) rfl ⟨rfl, ?_⟩
    exact HB.setRow (by omega) _
  · have _d424 : decide (x < 0) = false := by simp; omega
    have _d226 : decide (2147483648 ≤ x) = false := by simp; omega
    have _d615 : decide (i < 0) = false := by simp; omega
    have _d609 : decide (256 ≤ i) = false := by simp; omega
    have _d589 : decide (t < 0) = false := by simp; omega
    have _d744 : decide (1 < t) = true := by simp; omega
    go_enter Tryd.func20, Tryd.ntmps20
    go_wp2_with (first
      | ((with_reducible show wpList _ _ _ ({ dst := _, op := Op.build _ _, type := _, pos := _, after := _, guard := _ } :: _) _ _); refine wpList_build0 rfl 42 rfl (hv zero32) (Tryd.zeroHash _) ?_)
      | ((with_reducible show wpList _ _ _ ({ dst := _, op := Op.store _ _ _, type := _, pos := _, after := _, guard := _ } :: _) _ _); refine wpList_store_blk rfl 42 _ _ rfl w.heap.size rfl (hc zero32) rfl _ _ hZ rfl Hs.out (hc_row_one _) ?_))
    refine bodyPost_ret (results_cell_row rfl _ _ w.heap.size 42 _ (0, 0) _ rfl (hZ.setRow) Tryd.underlying42 rfl Hs.out) rfl ⟨rfl, ?_⟩
    exact HB.setRow (by omega) _
set_option maxHeartbeats 2000000 in
theorem rsecret_out (seed : List UInt8) (x i t : Int) (w : World) (h : ¬ secIn x i t) :
    Calls Tryd.prog 21 #[sv seed, .int .i64 x, .int .i64 i, .int .i64 t] w fun e w' => e = .returned (hv zero32) ∧ Below w.heap.size w w' := by
  have HB : Below w.heap.size w (w.alloc (.cells (hc zero32) 42)) := (Below.refl _ w).alloc (Nat.le_refl _) _
  have hZ : Blk (w.alloc (.cells (hc zero32) 42)) w.heap.size (hc zero32) 42 := Blk.new _ _ _
  have Hs := hid (show (Tryd.prog.info? 42).map (·.size) = some (hc zero32).size by kernel_rfl)
  have H := not_secIn h
  clear h
  rcases H with h | ⟨h1, h2⟩ | ⟨⟨h1, h2⟩, h3⟩ | ⟨⟨h1, h2⟩, h3, h4⟩ | ⟨⟨h1, h2⟩, ⟨h3, h4⟩, h5⟩ | ⟨⟨h1, h2⟩, ⟨h3, h4⟩, h5, h6⟩
  · have _d424 : decide (x < 0) = true := by simp; omega
    go_enter Tryd.func21, Tryd.ntmps21
    go_wp2_with (first
      | ((with_reducible show wpList _ _ _ ({ dst := _, op := Op.build _ _, type := _, pos := _, after := _, guard := _ } :: _) _ _); refine wpList_build0 rfl 42 rfl (hv zero32) (Tryd.zeroHash _) ?_)
      | ((with_reducible show wpList _ _ _ ({ dst := _, op := Op.store _ _ _, type := _, pos := _, after := _, guard := _ } :: _) _ _); refine wpList_store_blk rfl 42 _ _ rfl w.heap.size rfl (hc zero32) rfl _ _ hZ rfl Hs.out (hc_row_one _) ?_))
    refine bodyPost_ret (results_cell_row rfl _ _ w.heap.size 42 _ (0, 0) _ rfl (hZ.setRow) Tryd.underlying42 rfl Hs.out) rfl ⟨rfl, ?_⟩
    exact HB.setRow (by omega) _
  · have _d424 : decide (x < 0) = false := by simp; omega
    have _d139 : decide (2147483647 < x) = true := by simp; omega
    go_enter Tryd.func21, Tryd.ntmps21
    go_wp2_with (first
      | ((with_reducible show wpList _ _ _ ({ dst := _, op := Op.build _ _, type := _, pos := _, after := _, guard := _ } :: _) _ _); refine wpList_build0 rfl 42 rfl (hv zero32) (Tryd.zeroHash _) ?_)
      | ((with_reducible show wpList _ _ _ ({ dst := _, op := Op.store _ _ _, type := _, pos := _, after := _, guard := _ } :: _) _ _); refine wpList_store_blk rfl 42 _ _ rfl w.heap.size rfl (hc zero32) rfl _ _ hZ rfl Hs.out (hc_row_one _) ?_))
    refine bodyPost_ret (results_cell_row rfl _ _ w.heap.size 42 _ (0, 0) _ rfl (hZ.setRow) Tryd.underlying42 rfl Hs.out) rfl ⟨rfl, ?_⟩
    exact HB.setRow (by omega) _
  · have _d424 : decide (x < 0) = false := by simp; omega
    have _d139 : decide (2147483647 < x) = false := by simp; omega
    have _d615 : decide (i < 0) = true := by simp; omega
    go_enter Tryd.func21, Tryd.ntmps21
    go_wp2_with (first
      | ((with_reducible show wpList _ _ _ ({ dst := _, op := Op.build _ _, type := _, pos := _, after := _, guard := _ } :: _) _ _); refine wpList_build0 rfl 42 rfl (hv zero32) (Tryd.zeroHash _) ?_)
      | ((with_reducible show wpList _ _ _ ({ dst := _, op := Op.store _ _ _, type := _, pos := _, after := _, guard := _ } :: _) _ _); refine wpList_store_blk rfl 42 _ _ rfl w.heap.size rfl (hc zero32) rfl _ _ hZ rfl Hs.out (hc_row_one _) ?_))
    refine bodyPost_ret (results_cell_row rfl _ _ w.heap.size 42 _ (0, 0) _ rfl (hZ.setRow) Tryd.underlying42 rfl Hs.out) rfl ⟨rfl, ?_⟩
    exact HB.setRow (by omega) _
  · have _d424 : decide (x < 0) = false := by simp; omega
    have _d139 : decide (2147483647 < x) = false := by simp; omega
    have _d615 : decide (i < 0) = false := by simp; omega
    have _d508 : decide (255 < i) = true := by simp; omega
    go_enter Tryd.func21, Tryd.ntmps21
    go_wp2_with (first
      | ((with_reducible show wpList _ _ _ ({ dst := _, op := Op.build _ _, type := _, pos := _, after := _, guard := _ } :: _) _ _); refine wpList_build0 rfl 42 rfl (hv zero32) (Tryd.zeroHash _) ?_)
      | ((with_reducible show wpList _ _ _ ({ dst := _, op := Op.store _ _ _, type := _, pos := _, after := _, guard := _ } :: _) _ _); refine wpList_store_blk rfl 42 _ _ rfl w.heap.size rfl (hc zero32) rfl _ _ hZ rfl Hs.out (hc_row_one _) ?_))
    refine bodyPost_ret (results_cell_row rfl _ _ w.heap.size 42 _ (0, 0) _ rfl (hZ.setRow) Tryd.underlying42 rfl Hs.out) rfl ⟨rfl, ?_⟩
    exact HB.setRow (by omega) _
  · have _d424 : decide (x < 0) = false := by simp; omega
    have _d139 : decide (2147483647 < x) = false := by simp; omega
    have _d615 : decide (i < 0) = false := by simp; omega
    have _d508 : decide (255 < i) = false := by simp; omega
    have _e829 : (t != 0) = true := by simp; omega
    have _e590 : (t != 1) = true := by simp; omega
    go_enter Tryd.func21, Tryd.ntmps21
    go_wp2_with (first
      | ((with_reducible show wpList _ _ _ ({ dst := _, op := Op.build _ _, type := _, pos := _, after := _, guard := _ } :: _) _ _); refine wpList_build0 rfl 42 rfl (hv zero32) (Tryd.zeroHash _) ?_)
      | ((with_reducible show wpList _ _ _ ({ dst := _, op := Op.store _ _ _, type := _, pos := _, after := _, guard := _ } :: _) _ _); refine wpList_store_blk rfl 42 _ _ rfl w.heap.size rfl (hc zero32) rfl _ _ hZ rfl Hs.out (hc_row_one _) ?_))
    refine bodyPost_ret (results_cell_row rfl _ _ w.heap.size 42 _ (0, 0) _ rfl (hZ.setRow) Tryd.underlying42 rfl Hs.out) rfl ⟨rfl, ?_⟩
    exact HB.setRow (by omega) _
  · have _d424 : decide (x < 0) = false := by simp; omega
    have _d139 : decide (2147483647 < x) = false := by simp; omega
    have _d615 : decide (i < 0) = false := by simp; omega
    have _d508 : decide (255 < i) = false := by simp; omega
    have _e829 : (t != 0) = true := by simp; omega
    have _e590 : (t != 1) = true := by simp; omega
    go_enter Tryd.func21, Tryd.ntmps21
    go_wp2_with (first
      | ((with_reducible show wpList _ _ _ ({ dst := _, op := Op.build _ _, type := _, pos := _, after := _, guard := _ } :: _) _ _); refine wpList_build0 rfl 42 rfl (hv zero32) (Tryd.zeroHash _) ?_)
      | ((with_reducible show wpList _ _ _ ({ dst := _, op := Op.store _ _ _, type := _, pos := _, after := _, guard := _ } :: _) _ _); refine wpList_store_blk rfl 42 _ _ rfl w.heap.size rfl (hc zero32) rfl _ _ hZ rfl Hs.out (hc_row_one _) ?_))
    refine bodyPost_ret (results_cell_row rfl _ _ w.heap.size 42 _ (0, 0) _ rfl (hZ.setRow) Tryd.underlying42 rfl Hs.out) rfl ⟨rfl, ?_⟩
    exact HB.setRow (by omega) _
theorem secret_any (seed : List UInt8) (x i t : Int) (w : World) (hs : seed.length ≤ 1000000) (hG : ShaG w) :
    Calls Tryd.prog 20 #[sv seed, .int .i64 x, .int .i64 i, .int .i64 t] w fun e w' => e = .returned (hv (secL seed x i t)) ∧ Below w.heap.size w w' := by
  by_cases h : secIn x i t
  · obtain ⟨h1, h2, h3, h4, h5, h6⟩ := id h
    obtain ⟨a, rfl⟩ : ∃ a : Nat, x = a := ⟨x.toNat, by omega⟩
    obtain ⟨b, rfl⟩ : ∃ b : Nat, i = b := ⟨i.toNat, by omega⟩
    obtain ⟨c, rfl⟩ : ∃ c : Nat, t = c := ⟨t.toNat, by omega⟩
    rw [show secL seed a b c = secN seed a b c by unfold secL; rw [if_pos h]; simp]
    exact secret_in seed a b c w hs (by omega) (by omega) (by omega) hG
  · rw [show secL seed x i t = zero32 by unfold secL; rw [if_neg h]]
    exact secret_out seed x i t w h
theorem rsecret_any (seed : List UInt8) (x i t : Int) (w : World) (hs : seed.length ≤ 1000000) :
    Calls Tryd.prog 21 #[sv seed, .int .i64 x, .int .i64 i, .int .i64 t] w fun e w' => e = .returned (hv (secL seed x i t)) ∧ Below w.heap.size w w' := by
  by_cases h : secIn x i t
  · obtain ⟨h1, h2, h3, h4, h5, h6⟩ := id h
    obtain ⟨a, rfl⟩ : ∃ a : Nat, x = a := ⟨x.toNat, by omega⟩
    obtain ⟨b, rfl⟩ : ∃ b : Nat, i = b := ⟨i.toNat, by omega⟩
    obtain ⟨c, rfl⟩ : ∃ c : Nat, t = c := ⟨t.toNat, by omega⟩
    rw [show secL seed a b c = secN seed a b c by unfold secL; rw [if_pos h]; simp]
    exact rsecret_in seed a b c w hs (by omega) (by omega) (by omega)
  · rw [show secL seed x i t = zero32 by unfold secL; rw [if_neg h]]
    exact rsecret_out seed x i t w h
end Go.Proofs.YtchpoggegdocpaaDoor
