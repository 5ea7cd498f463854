import Derived.Test.YtjpnlnbpaecciaaSgB
set_option maxRecDepth 100000
namespace Go.Proofs.Ytjpnlnbpaecciaa
open Go.RowKit Go.Spec
/-- a signed head's bytes -/
def putS (z : Nat) (root : List UInt8) (i : Nat) (sig : List UInt8) (path : List (List UInt8)) : List UInt8 := numL z ++ (root ++ (numL i ++ (numL sig.length ++ (sig ++ hashesL path))))
theorem valid_yes (z i : Nat) (root sig : List UInt8) (a : Option Addr) (cap : Nat) (w : World) (hr : root.length = 32) (hz : z ≤ 4096) (hi : i < 8) (hs : sig.length = 16384) :
    Calls Try.prog 21 #[.agg (sgA z root i sig (.slice a 3 cap))] w fun e w' => e = .returned (.bool true) ∧ Below w.heap.size w w' :=
  (valid_any z i root sig a 3 cap w hr).mono fun _ _ ⟨x, y⟩ => ⟨by rw [x]; simp [validB]; omega, y⟩
set_option maxHeartbeats 2000000 in
theorem sput_yes (z i : Nat) (root sig : List UInt8) (path : List (List UInt8)) (a : Option Addr) (cap : Nat) (w : World) (hr : root.length = 32) (hz : z ≤ 4096) (hi : i < 8) (hs : sig.length = 16384) (hp : path.length = 3) (hat : SlAt w 32 (.slice a 3 cap) (hcs path)) :
    Calls Try.prog 45 #[.agg (sgA z root i sig (.slice a 3 cap))] w fun e w' => e = .returned (.tuple #[sv (putS z root i sig path), .int .i64 0]) ∧ Below w.heap.size w w' := by
  have Hat := hid hat
  have V := hid (fun w0 => valid_yes z i root sig a cap w0 hr hz hi hs)
  have Hsz := hid (show (Try.prog.info? 41).map (·.size) = some (sgA z root i sig (.slice a 3 cap)).size by rw [sgA_size hr]; exact Try.sizeSigned)
  have Hsh := hid (show (Try.prog.info? 34).map (·.size) = some root.length by rw [hr]; exact Try.sizeHash)
  have Hr := hid hr
  have HS := hid hs
  have HP := hid hp
  have hn1 := numL_len z (by omega); have hn2 := numL_len i (by omega); have hn3 := numL_len sig.length (by omega)
  have hpl : (hashesL path).length ≤ 106 := by
    rw [hashesL, if_neg (by omega), List.length_append, flatten_len hat.len32]
    have := numL_len path.length (by omega)
    omega
  have hsl : sig.length ≤ 16384 := by omega
  have hrl : root.length ≤ 32 := by omega
  clear hat hs hp
  have HB0 : Hid (Blk (w.alloc (.cells (sgA z root i sig (.slice a 3 cap)) 41)) w.heap.size (sgA z root i sig (.slice a 3 cap)) 41) := hid (Blk.new _ _ _)
  go_enter Try.func45, Try.ntmps45
  go_upto_region 3 with (first
    | ((with_reducible show wpList _ _ _ ({ dst := _, op := Op.load 41 _, type := _, pos := _, after := _, guard := _ } :: _) _ _); refine wpList_load_blk rfl 41 _ rfl w.heap.size rfl 41 _ _ HB0.out Try.underlying41 rfl Hsz.out ?_)
    | (go_at_call 21; refine (V.out _).mono ?_; rintro e w1 ⟨rfl, hb1⟩))
  have HB1 := hid (HB0.out.later hb1)
  have HW1 := hid (((Below.refl _ w).alloc (Nat.le_refl _) (.cells (sgA z root i sig (.slice a 3 cap)) 41)).trans (hb1.mono (by simp)))
  have C1 := hid (fun x : Later w1 => num_any z (lat x) (by omega))
  have C2 := hid (fun x : Later w1 => num_any i (lat x) (by omega))
  have C3 := hid (fun x : Later w1 => text_any sig (lat x) (by omega))
  have C4 := hid (fun x : Later w1 => hash_any root (lat x) Hr.out)
  have C5 := hid (fun x : Later w1 => hashes_any _ path (lat x) ((Hat.out.below HW1.out (Nat.le_refl _)).below (lat_below x) (Nat.le_refl _)) (by rw [HP.out]; omega))
  clear hb1 HB0 hr
  refine wp_region_later (by kernel_rfl) (by kernel_rfl) ?_
  repeat (first
    | (refine wpQuiet_load_one rfl 3 _ rfl ⟨w.heap.size, 0, none⟩ rfl (.int .i64 z) _ (by rintro _ ⟨q, rfl⟩; exact (HB1.out.later (lat_below q)).sg0) Try.underlying3 rfl ?_; simp only [Act.put, List.setIfInBounds_toArray, List.set_cons_succ, List.set_cons_zero])
    | (refine wpQuiet_load_one rfl 3 _ rfl ⟨w.heap.size, 33, none⟩ rfl (.int .i64 i) _ (by rintro _ ⟨q, rfl⟩; exact (HB1.out.later (lat_below q)).sg33 Hr.out) Try.underlying3 rfl ?_; simp only [Act.put, List.setIfInBounds_toArray, List.set_cons_succ, List.set_cons_zero])
    | (refine wpQuiet_load_one rfl 9 _ rfl ⟨w.heap.size, 34, none⟩ rfl (sv sig) _ (by rintro _ ⟨q, rfl⟩; exact (HB1.out.later (lat_below q)).sg34 Hr.out) Try.underlying9 rfl ?_; simp only [Act.put, List.setIfInBounds_toArray, List.set_cons_succ, List.set_cons_zero])
    | (refine wpQuiet_load_one rfl 37 _ rfl ⟨w.heap.size, 35, none⟩ rfl (.slice a 3 cap) _ (by rintro _ ⟨q, rfl⟩; exact (HB1.out.later (lat_below q)).sg35 Hr.out) Try.underlying37 rfl ?_; simp only [Act.put, List.setIfInBounds_toArray, List.set_cons_succ, List.set_cons_zero])
    | (refine wpQuiet_load_hcG rfl 34 _ rfl ⟨w.heap.size, 1, none⟩ rfl root _ (by rintro _ ⟨q, rfl⟩; exact (HB1.out.later (lat_below q)).sgRoot Hr.out) Try.underlying34 rfl Hsh.out ?_; simp only [Act.put, List.setIfInBounds_toArray, List.set_cons_succ, List.set_cons_zero])
    | go_big_quiet_step ((first | (go_at_call 44; with_reducible exact calls_later (C1.out _)) | (go_at_call 44; with_reducible exact calls_later (C2.out _)) | (go_at_call 46; with_reducible exact calls_later (C3.out _)) | (go_at_call 52; with_reducible exact calls_later (C4.out _)) | (go_at_call 63; with_reducible exact calls_later (C5.out _)))))
  refine wpQuiet_nil ?_
  rintro _ ⟨q6, rfl⟩
  have hb6 := lat_below q6
  generalize lat q6 = w6 at *
  go_wp2
  go_ret2
  exact ⟨rfl, HW1.out.trans (hb6.mono HW1.out.size)⟩
theorem valid_no (z i : Int) (root sig : List UInt8) (a : Option Addr) (n cap : Nat) (w : World) (hr : root.length = 32) (hv : validB z i sig n = false) :
    Calls Try.prog 21 #[.agg (sgA z root i sig (.slice a n cap))] w fun e w' => e = .returned (.bool false) ∧ Below w.heap.size w w' :=
  (valid_any z i root sig a n cap w hr).mono fun _ _ ⟨x, y⟩ => ⟨by rw [x, hv], y⟩
set_option maxHeartbeats 2000000 in
theorem sput_no (z i : Int) (root sig : List UInt8) (a : Option Addr) (n cap : Nat) (w : World) (hr : root.length = 32) (hv : validB z i sig n = false) :
    Calls Try.prog 45 #[.agg (sgA z root i sig (.slice a n cap))] w fun e w' => e = .returned (.tuple #[sv [], .int .i64 2]) ∧ Below w.heap.size w w' := by
  have V := hid (fun w0 => valid_no z i root sig a n cap w0 hr hv)
  have Hsz := hid (show (Try.prog.info? 41).map (·.size) = some (sgA z root i sig (.slice a n cap)).size by rw [sgA_size hr]; exact Try.sizeSigned)
  clear hv
  have HB0 : Hid (Blk (w.alloc (.cells (sgA z root i sig (.slice a n cap)) 41)) w.heap.size (sgA z root i sig (.slice a n cap)) 41) := hid (Blk.new _ _ _)
  go_enter Try.func45, Try.ntmps45
  go_wp2_with (first
    | ((with_reducible show wpList _ _ _ ({ dst := _, op := Op.load 41 _, type := _, pos := _, after := _, guard := _ } :: _) _ _); refine wpList_load_blk rfl 41 _ rfl w.heap.size rfl 41 _ _ HB0.out Try.underlying41 rfl Hsz.out ?_)
    | (go_at_call 21; refine (V.out _).mono ?_; rintro e w1 ⟨rfl, hb1⟩))
  go_ret2
  exact ⟨rfl, ((Below.refl _ w).alloc (Nat.le_refl _) (.cells (sgA z root i sig (.slice a n cap)) 41)).trans (hb1.mono (by simp))⟩
theorem rvalid_yes (z i : Nat) (root sig : List UInt8) (a : Option Addr) (cap : Nat) (w : World) (hr : root.length = 32) (hz : z ≤ 4096) (hi : i < 8) (hs : sig.length = 16384) :
    Calls Try.prog 57 #[.agg (sgA z root i sig (.slice a 3 cap))] w fun e w' => e = .returned (.bool true) ∧ Below w.heap.size w w' :=
  (rvalid_any z i root sig a 3 cap w hr).mono fun _ _ ⟨x, y⟩ => ⟨by rw [x]; simp [validB]; omega, y⟩
set_option maxHeartbeats 2000000 in
theorem rsput_yes (z i : Nat) (root sig : List UInt8) (path : List (List UInt8)) (a : Option Addr) (cap : Nat) (w : World) (hr : root.length = 32) (hz : z ≤ 4096) (hi : i < 8) (hs : sig.length = 16384) (hp : path.length = 3) (hat : SlAt w 32 (.slice a 3 cap) (hcs path)) :
    Calls Try.prog 49 #[.agg (sgA z root i sig (.slice a 3 cap))] w fun e w' => e = .returned (.tuple #[sv (putS z root i sig path), .int .i64 0]) ∧ Below w.heap.size w w' := by
  have Hat := hid hat
  have V := hid (fun w0 => rvalid_yes z i root sig a cap w0 hr hz hi hs)
  have Hsz := hid (show (Try.prog.info? 41).map (·.size) = some (sgA z root i sig (.slice a 3 cap)).size by rw [sgA_size hr]; exact Try.sizeSigned)
  have Hsh := hid (show (Try.prog.info? 34).map (·.size) = some root.length by rw [hr]; exact Try.sizeHash)
  have Hr := hid hr
  have HS := hid hs
  have HP := hid hp
  have hn1 := numL_len z (by omega); have hn2 := numL_len i (by omega); have hn3 := numL_len sig.length (by omega)
  have hpl : (hashesL path).length ≤ 106 := by
    rw [hashesL, if_neg (by omega), List.length_append, flatten_len hat.len32]
    have := numL_len path.length (by omega)
    omega
  have hsl : sig.length ≤ 16384 := by omega
  have hrl : root.length ≤ 32 := by omega
  clear hat hs hp
  have HB0 : Hid (Blk (w.alloc (.cells (sgA z root i sig (.slice a 3 cap)) 41)) w.heap.size (sgA z root i sig (.slice a 3 cap)) 41) := hid (Blk.new _ _ _)
  go_enter Try.func49, Try.ntmps49
  go_upto_region 3 with (first
    | ((with_reducible show wpList _ _ _ ({ dst := _, op := Op.load 41 _, type := _, pos := _, after := _, guard := _ } :: _) _ _); refine wpList_load_blk rfl 41 _ rfl w.heap.size rfl 41 _ _ HB0.out Try.underlying41 rfl Hsz.out ?_)
    | (go_at_call 57; refine (V.out _).mono ?_; rintro e w1 ⟨rfl, hb1⟩))
  have HB1 := hid (HB0.out.later hb1)
  have HW1 := hid (((Below.refl _ w).alloc (Nat.le_refl _) (.cells (sgA z root i sig (.slice a 3 cap)) 41)).trans (hb1.mono (by simp)))
  have C1 := hid (fun x : Later w1 => rnum_any z (lat x) (by omega))
  have C2 := hid (fun x : Later w1 => rnum_any i (lat x) (by omega))
  have C3 := hid (fun x : Later w1 => rtext_any sig (lat x) (by omega))
  have C4 := hid (fun x : Later w1 => rhash_any root (lat x) Hr.out)
  have C5 := hid (fun x : Later w1 => rhashes_any _ path (lat x) ((Hat.out.below HW1.out (Nat.le_refl _)).below (lat_below x) (Nat.le_refl _)) (by rw [HP.out]; omega))
  clear hb1 HB0 hr
  refine wp_region_later (by kernel_rfl) (by kernel_rfl) ?_
  repeat (first
    | (refine wpQuiet_load_one rfl 3 _ rfl ⟨w.heap.size, 0, none⟩ rfl (.int .i64 z) _ (by rintro _ ⟨q, rfl⟩; exact (HB1.out.later (lat_below q)).sg0) Try.underlying3 rfl ?_; simp only [Act.put, List.setIfInBounds_toArray, List.set_cons_succ, List.set_cons_zero])
    | (refine wpQuiet_load_one rfl 3 _ rfl ⟨w.heap.size, 33, none⟩ rfl (.int .i64 i) _ (by rintro _ ⟨q, rfl⟩; exact (HB1.out.later (lat_below q)).sg33 Hr.out) Try.underlying3 rfl ?_; simp only [Act.put, List.setIfInBounds_toArray, List.set_cons_succ, List.set_cons_zero])
    | (refine wpQuiet_load_one rfl 9 _ rfl ⟨w.heap.size, 34, none⟩ rfl (sv sig) _ (by rintro _ ⟨q, rfl⟩; exact (HB1.out.later (lat_below q)).sg34 Hr.out) Try.underlying9 rfl ?_; simp only [Act.put, List.setIfInBounds_toArray, List.set_cons_succ, List.set_cons_zero])
    | (refine wpQuiet_load_one rfl 37 _ rfl ⟨w.heap.size, 35, none⟩ rfl (.slice a 3 cap) _ (by rintro _ ⟨q, rfl⟩; exact (HB1.out.later (lat_below q)).sg35 Hr.out) Try.underlying37 rfl ?_; simp only [Act.put, List.setIfInBounds_toArray, List.set_cons_succ, List.set_cons_zero])
    | (refine wpQuiet_load_hcG rfl 34 _ rfl ⟨w.heap.size, 1, none⟩ rfl root _ (by rintro _ ⟨q, rfl⟩; exact (HB1.out.later (lat_below q)).sgRoot Hr.out) Try.underlying34 rfl Hsh.out ?_; simp only [Act.put, List.setIfInBounds_toArray, List.set_cons_succ, List.set_cons_zero])
    | go_big_quiet_step ((first | (go_at_call 48; with_reducible exact calls_later (C1.out _)) | (go_at_call 48; with_reducible exact calls_later (C2.out _)) | (go_at_call 50; with_reducible exact calls_later (C3.out _)) | (go_at_call 53; with_reducible exact calls_later (C4.out _)) | (go_at_call 65; with_reducible exact calls_later (C5.out _)))))
  refine wpQuiet_nil ?_
  rintro _ ⟨q6, rfl⟩
  have hb6 := lat_below q6
  generalize lat q6 = w6 at *
  go_wp2
  go_ret2
  exact ⟨rfl, HW1.out.trans (hb6.mono HW1.out.size)⟩
theorem rvalid_no (z i : Int) (root sig : List UInt8) (a : Option Addr) (n cap : Nat) (w : World) (hr : root.length = 32) (hv : validB z i sig n = false) :
    Calls Try.prog 57 #[.agg (sgA z root i sig (.slice a n cap))] w fun e w' => e = .returned (.bool false) ∧ Below w.heap.size w w' :=
  (rvalid_any z i root sig a n cap w hr).mono fun _ _ ⟨x, y⟩ => ⟨by rw [x, hv], y⟩
set_option maxHeartbeats 2000000 in
theorem rsput_no (z i : Int) (root sig : List UInt8) (a : Option Addr) (n cap : Nat) (w : World) (hr : root.length = 32) (hv : validB z i sig n = false) :
    Calls Try.prog 49 #[.agg (sgA z root i sig (.slice a n cap))] w fun e w' => e = .returned (.tuple #[sv [], .int .i64 2]) ∧ Below w.heap.size w w' := by
  have V := hid (fun w0 => rvalid_no z i root sig a n cap w0 hr hv)
  have Hsz := hid (show (Try.prog.info? 41).map (·.size) = some (sgA z root i sig (.slice a n cap)).size by rw [sgA_size hr]; exact Try.sizeSigned)
  clear hv
  have HB0 : Hid (Blk (w.alloc (.cells (sgA z root i sig (.slice a n cap)) 41)) w.heap.size (sgA z root i sig (.slice a n cap)) 41) := hid (Blk.new _ _ _)
  go_enter Try.func49, Try.ntmps49
  go_wp2_with (first
    | ((with_reducible show wpList _ _ _ ({ dst := _, op := Op.load 41 _, type := _, pos := _, after := _, guard := _ } :: _) _ _); refine wpList_load_blk rfl 41 _ rfl w.heap.size rfl 41 _ _ HB0.out Try.underlying41 rfl Hsz.out ?_)
    | (go_at_call 57; refine (V.out _).mono ?_; rintro e w1 ⟨rfl, hb1⟩))
  go_ret2
  exact ⟨rfl, ((Below.refl _ w).alloc (Nat.le_refl _) (.cells (sgA z root i sig (.slice a n cap)) 41)).trans (hb1.mono (by simp))⟩
end Go.Proofs.Ytjpnlnbpaecciaa
