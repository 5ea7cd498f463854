/- speculumref21.Answer -/
import Derived.Test.YtbpjlancjdbehaaDoorQSrvAnswer

set_option maxRecDepth 100000
namespace Go.Proofs.YtbpjlancjdbehaaDoor
open Go.RowKit Go.Spec
theorem Tryd.sizeSrcR : (Tryd.prog.info? 63).map (·.size) = some 4 := by kernel_rfl
theorem rproofNat (l : List (List UInt8)) (v : Value) (m n : Nat) (w : World) (hl : l.length ≤ 1000000) (hn : n ≤ l.length) (hm : m ≤ n) (hS : SlAt w 32 v (hcs (l.take n))) :
    Calls Tryd.prog 47 #[v, .int .i64 (m : Int)] w fun e w' => (∃ u, e = .returned (.tuple #[u, .int .i64 0]) ∧ SlAt w' 32 u (hcs (rprX (l.take n) (m : Int)))) ∧ Below w.heap.size w w' := by
  have h := rproof_any (l.take n) v (m : Int) w (by rw [List.length_take]; omega) hS
  rwa [show rprE (l.take n) (m : Int) = 0 by unfold rprE; rw [if_pos (by rw [List.length_take]; omega)]] at h
theorem rpathNat (l : List (List UInt8)) (v : Value) (m n : Nat) (w : World) (hl : l.length ≤ 1000000) (hn : n ≤ l.length) (hm : m < n) (hS : SlAt w 32 v (hcs (l.take n))) :
    Calls Tryd.prog 46 #[v, .int .i64 (m : Int)] w fun e w' => (∃ u, e = .returned (.tuple #[u, .int .i64 0]) ∧ SlAt w' 32 u (hcs (pathX (l.take n) (m : Int)))) ∧ Below w.heap.size w w' := by
  have h := rpath_any v (l.take n) (m : Int) w hS (by rw [List.length_take]; omega)
  rwa [show pathE (l.take n) (m : Int) = 0 by unfold pathE; rw [if_pos ⟨by omega, by rw [List.length_take]; omega⟩]] at h
set_option maxHeartbeats 8000000 in
theorem ranswer_head_no (S : Src) (ve vl vf : Value) (ha : Option Addr) (hac : Nat) (hd fd : List Sg) (id fr ct sz : Int) (w : World) (hX : SrcIn w S ve vl (.slice ha hd.length hac) vf hd fd) (hs : SrcSmall S) (hn : ¬ S.head.length = 1) :
    Calls Tryd.prog 34 #[.agg (srcC ve vl (.slice ha hd.length hac) vf), Rq.v ⟨id, 1, fr, ct, sz⟩] w fun e w' => AnsR w (ansRp S ⟨id, 1, fr, ct, sz⟩) e w' := by
  have hE : ansRp S ⟨id, 1, fr, ct, sz⟩ = failRp id 4 := by simp [ansRp, hn]
  rw [hE]
  clear hE
  have hlen : hd.length = S.head.length := by rw [← hX.hk, List.length_map]
  have F := hid (fun w0 => fails_any id 4 w0)
  have h1 := hs.h1; have h2 := hs.f1
  have d1 : ((hd.length : Int) == 1) = false := by simp; omega
  have hl3 : hd.length ≤ 3 := by omega
  have SZ := hid (fun w' (hb : Below w.heap.size w w') => rsize_any S ve vl (.slice ha hd.length hac) vf hd fd w' (hX.below hb) hs)
  generalize sizeS S = N at *
  clear hX hs hn h1 h2 hlen
  go_enter Tryd.func34, Tryd.ntmps34
  go_upto_region 1 with fail
  refine wp_world (fun W => SrvW w W 63 (srcC ve vl (.slice ha hd.length hac) vf) (Rq.cs ⟨id, 1, fr, ct, sz⟩)) (SrvW.new _ _ _ _) ?_
  intro w0 hW
  have HW0 := hid hW
  clear hW
  go_upto_region 2 with (first
    | ((with_reducible show wpList _ _ _ ({ dst := _, op := Op.load 63 _, type := _, pos := _, after := _, guard := _ } :: _) _ _); refine wpList_load_blk rfl 63 _ rfl w.heap.size rfl 63 (srcC ve vl (.slice ha hd.length hac) vf) _ HW0.out.s Tryd.underlying63 rfl Tryd.sizeSrcR ?_)
    | (go_at_call 31; refine (SZ.out _ HW0.out.be).mono ?_; rintro e w3 ⟨rfl, hb3⟩))
  have HW := hid (HW0.out.later hb3)
  clear hb3 SZ HW0
  have r0 : w3.cell? ⟨w.heap.size + 1, 0, none⟩ = some (.int .i64 id) := Blk.cell HW.out.r 0
  have r1 : w3.cell? ⟨w.heap.size + 1, 1, none⟩ = some (.int .i64 1) := Blk.cell HW.out.r 1
  have a2 : w3.cell? ⟨w.heap.size, 2, none⟩ = some (.slice ha hd.length hac) := Blk.cell HW.out.s 2
  go_wp2_with (first
    | (go_at_call 59; refine (F.out _).mono ?_; rintro e w9 ⟨rfl, hb9⟩)
    | ((with_reducible show wpList _ _ _ ({ dst := _, op := Op.store 68 _ _, type := _, pos := _, after := _, guard := _ } :: _) _ _); refine wpList_store_blk rfl 68 _ _ rfl (w.heap.size + 1 + 1) rfl (rpC (failRp id 4) nilS nilS nilS) rfl _ _ (HW.out.y.later hb9) rfl Tryd.sizeRpS (rpC_oneS _ _ _ _ rfl rfl rfl) ?_))
  refine bodyPost_ret (results_cell_row rfl _ _ (w.heap.size + 1 + 1) 68 _ (0, 0) _ rfl ((HW.out.y.later hb9).setRow) Tryd.underlying68 rfl Tryd.sizeRpS) rfl ?_
  exact ⟨_, _, _, [], rfl, failIn _ _ _, (bth HW.out.be hb9).setRow (by omega) _⟩
set_option maxHeartbeats 8000000 in
theorem ranswer_head_ok (S : Src) (ve vl vf : Value) (ha : Option Addr) (hac : Nat) (hd fd : List Sg) (id fr ct sz : Int) (w : World) (hX : SrcIn w S ve vl (.slice ha hd.length hac) vf hd fd) (hs : SrcSmall S) (hn : S.head.length = 1) :
    Calls Tryd.prog 34 #[.agg (srcC ve vl (.slice ha hd.length hac) vf), Rq.v ⟨id, 1, fr, ct, sz⟩] w fun e w' => AnsR w (ansRp S ⟨id, 1, fr, ct, sz⟩) e w' := by
  have hE : ansRp S ⟨id, 1, fr, ct, sz⟩ = ⟨id, 2, 0, S.head, [], []⟩ := by simp [ansRp, hn]
  rw [hE]
  clear hE
  have hlen : hd.length = 1 := by rw [← hn, ← hX.hk, List.length_map]
  have HX := hid hX
  have HK := hid hX.hk
  have d1 : ((hd.length : Int) == 1) = true := by simp [hlen]
  have hl3 : hd.length ≤ 3 := by omega
  have SZ := hid (fun w' (hb : Below w.heap.size w w') => rsize_any S ve vl (.slice ha hd.length hac) vf hd fd w' (hX.below hb) hs)
  generalize sizeS S = N at *
  clear hX hs hn hlen
  go_enter Tryd.func34, Tryd.ntmps34
  go_upto_region 1 with fail
  refine wp_world (fun W => SrvW w W 63 (srcC ve vl (.slice ha hd.length hac) vf) (Rq.cs ⟨id, 1, fr, ct, sz⟩)) (SrvW.new _ _ _ _) ?_
  intro w0 hW
  have HW0 := hid hW
  clear hW
  go_upto_region 2 with (first
    | ((with_reducible show wpList _ _ _ ({ dst := _, op := Op.load 63 _, type := _, pos := _, after := _, guard := _ } :: _) _ _); refine wpList_load_blk rfl 63 _ rfl w.heap.size rfl 63 (srcC ve vl (.slice ha hd.length hac) vf) _ HW0.out.s Tryd.underlying63 rfl Tryd.sizeSrcR ?_)
    | (go_at_call 31; refine (SZ.out _ HW0.out.be).mono ?_; rintro e w3 ⟨rfl, hb3⟩))
  have HW := hid (HW0.out.later hb3)
  clear hb3 SZ HW0
  have r0 : w3.cell? ⟨w.heap.size + 1, 0, none⟩ = some (.int .i64 id) := Blk.cell HW.out.r 0
  have r1 : w3.cell? ⟨w.heap.size + 1, 1, none⟩ = some (.int .i64 1) := Blk.cell HW.out.r 1
  have a2 : w3.cell? ⟨w.heap.size, 2, none⟩ = some (.slice ha hd.length hac) := Blk.cell HW.out.s 2
  have HW7 := HW
  go_wp2_with (first
    | ((with_reducible show wpList _ _ _ ({ dst := _, op := Op.build 68 _, type := _, pos := _, after := _, guard := _ } :: _) _ _); refine wpList_buildP rfl 68 [(0, .tmp 23), (1, .const (.int .i64 2)), (3, .tmp 25)] rfl (.agg (rpC ⟨id, 2, 0, S.head, [], []⟩ (.slice ha hd.length hac) nilS nilS)) (fun w => by kernel_rfl) ?_)
    | ((with_reducible show wpList _ _ _ ({ dst := _, op := Op.store 68 _ _, type := _, pos := _, after := _, guard := _ } :: _) _ _); refine wpList_store_blk rfl 68 _ _ rfl (w.heap.size + 1 + 1) rfl (rpC ⟨id, 2, 0, S.head, [], []⟩ (.slice ha hd.length hac) nilS nilS) rfl _ _ HW7.out.y rfl Tryd.sizeRpS (rpC_oneS _ _ _ _ rfl rfl rfl) ?_))
  have HY8 := hid (HW7.out.y.setRow (cs' := (rpC ⟨id, 2, 0, S.head, [], []⟩ (.slice ha hd.length hac) nilS nilS)))
  have HB8 := hid (HW7.out.be.setRow (g := w.heap.size + 1 + 1) (by omega) (rpC ⟨id, 2, 0, S.head, [], []⟩ (.slice ha hd.length hac) nilS nilS))
  refine bodyPost_ret (results_cell_row rfl _ _ (w.heap.size + 1 + 1) 68 _ (0, 0) _ rfl HY8.out Tryd.underlying68 rfl Tryd.sizeRpS) rfl ?_
  exact ⟨_, _, _, hd, rfl, ⟨(HX.out.below HB8.out).head, HK.out, strsNil _, slNilP _⟩, HB8.out⟩
set_option maxHeartbeats 8000000 in
theorem ranswer_fork_no (S : Src) (ve vl vh : Value) (ha : Option Addr) (hac : Nat) (hd fd : List Sg) (id fr ct sz : Int) (w : World) (hX : SrcIn w S ve vl vh (.slice ha fd.length hac) hd fd) (hs : SrcSmall S) (hn : ¬ S.fork.length = 2) :
    Calls Tryd.prog 34 #[.agg (srcC ve vl vh (.slice ha fd.length hac)), Rq.v ⟨id, 5, fr, ct, sz⟩] w fun e w' => AnsR w (ansRp S ⟨id, 5, fr, ct, sz⟩) e w' := by
  have hE : ansRp S ⟨id, 5, fr, ct, sz⟩ = failRp id 4 := by simp [ansRp, hn]
  rw [hE]
  clear hE
  have hlen : fd.length = S.fork.length := by rw [← hX.fk, List.length_map]
  have F := hid (fun w0 => fails_any id 4 w0)
  have h1 := hs.h1; have h2 := hs.f1
  have d1 : ((fd.length : Int) == 2) = false := by simp; omega
  have hl3 : fd.length ≤ 3 := by omega
  have SZ := hid (fun w' (hb : Below w.heap.size w w') => rsize_any S ve vl vh (.slice ha fd.length hac) hd fd w' (hX.below hb) hs)
  generalize sizeS S = N at *
  clear hX hs hn h1 h2 hlen
  go_enter Tryd.func34, Tryd.ntmps34
  go_upto_region 1 with fail
  refine wp_world (fun W => SrvW w W 63 (srcC ve vl vh (.slice ha fd.length hac)) (Rq.cs ⟨id, 5, fr, ct, sz⟩)) (SrvW.new _ _ _ _) ?_
  intro w0 hW
  have HW0 := hid hW
  clear hW
  go_upto_region 2 with (first
    | ((with_reducible show wpList _ _ _ ({ dst := _, op := Op.load 63 _, type := _, pos := _, after := _, guard := _ } :: _) _ _); refine wpList_load_blk rfl 63 _ rfl w.heap.size rfl 63 (srcC ve vl vh (.slice ha fd.length hac)) _ HW0.out.s Tryd.underlying63 rfl Tryd.sizeSrcR ?_)
    | (go_at_call 31; refine (SZ.out _ HW0.out.be).mono ?_; rintro e w3 ⟨rfl, hb3⟩))
  have HW := hid (HW0.out.later hb3)
  clear hb3 SZ HW0
  have r0 : w3.cell? ⟨w.heap.size + 1, 0, none⟩ = some (.int .i64 id) := Blk.cell HW.out.r 0
  have r1 : w3.cell? ⟨w.heap.size + 1, 1, none⟩ = some (.int .i64 5) := Blk.cell HW.out.r 1
  have a2 : w3.cell? ⟨w.heap.size, 3, none⟩ = some (.slice ha fd.length hac) := Blk.cell HW.out.s 3
  go_wp2_with (first
    | (go_at_call 59; refine (F.out _).mono ?_; rintro e w9 ⟨rfl, hb9⟩)
    | ((with_reducible show wpList _ _ _ ({ dst := _, op := Op.store 68 _ _, type := _, pos := _, after := _, guard := _ } :: _) _ _); refine wpList_store_blk rfl 68 _ _ rfl (w.heap.size + 1 + 1) rfl (rpC (failRp id 4) nilS nilS nilS) rfl _ _ (HW.out.y.later hb9) rfl Tryd.sizeRpS (rpC_oneS _ _ _ _ rfl rfl rfl) ?_))
  refine bodyPost_ret (results_cell_row rfl _ _ (w.heap.size + 1 + 1) 68 _ (0, 0) _ rfl ((HW.out.y.later hb9).setRow) Tryd.underlying68 rfl Tryd.sizeRpS) rfl ?_
  exact ⟨_, _, _, [], rfl, failIn _ _ _, (bth HW.out.be hb9).setRow (by omega) _⟩
set_option maxHeartbeats 8000000 in
theorem ranswer_fork_ok (S : Src) (ve vl vh : Value) (ha : Option Addr) (hac : Nat) (hd fd : List Sg) (id fr ct sz : Int) (w : World) (hX : SrcIn w S ve vl vh (.slice ha fd.length hac) hd fd) (hs : SrcSmall S) (hn : S.fork.length = 2) :
    Calls Tryd.prog 34 #[.agg (srcC ve vl vh (.slice ha fd.length hac)), Rq.v ⟨id, 5, fr, ct, sz⟩] w fun e w' => AnsR w (ansRp S ⟨id, 5, fr, ct, sz⟩) e w' := by
  have hE : ansRp S ⟨id, 5, fr, ct, sz⟩ = ⟨id, 5, 0, S.fork, [], []⟩ := by simp [ansRp, hn]
  rw [hE]
  clear hE
  have hlen : fd.length = 2 := by rw [← hn, ← hX.fk, List.length_map]
  have HX := hid hX
  have HK := hid hX.fk
  have d1 : ((fd.length : Int) == 2) = true := by simp [hlen]
  have hl3 : fd.length ≤ 3 := by omega
  have SZ := hid (fun w' (hb : Below w.heap.size w w') => rsize_any S ve vl vh (.slice ha fd.length hac) hd fd w' (hX.below hb) hs)
  generalize sizeS S = N at *
  clear hX hs hn hlen
  go_enter Tryd.func34, Tryd.ntmps34
  go_upto_region 1 with fail
  refine wp_world (fun W => SrvW w W 63 (srcC ve vl vh (.slice ha fd.length hac)) (Rq.cs ⟨id, 5, fr, ct, sz⟩)) (SrvW.new _ _ _ _) ?_
  intro w0 hW
  have HW0 := hid hW
  clear hW
  go_upto_region 2 with (first
    | ((with_reducible show wpList _ _ _ ({ dst := _, op := Op.load 63 _, type := _, pos := _, after := _, guard := _ } :: _) _ _); refine wpList_load_blk rfl 63 _ rfl w.heap.size rfl 63 (srcC ve vl vh (.slice ha fd.length hac)) _ HW0.out.s Tryd.underlying63 rfl Tryd.sizeSrcR ?_)
    | (go_at_call 31; refine (SZ.out _ HW0.out.be).mono ?_; rintro e w3 ⟨rfl, hb3⟩))
  have HW := hid (HW0.out.later hb3)
  clear hb3 SZ HW0
  have r0 : w3.cell? ⟨w.heap.size + 1, 0, none⟩ = some (.int .i64 id) := Blk.cell HW.out.r 0
  have r1 : w3.cell? ⟨w.heap.size + 1, 1, none⟩ = some (.int .i64 5) := Blk.cell HW.out.r 1
  have a2 : w3.cell? ⟨w.heap.size, 3, none⟩ = some (.slice ha fd.length hac) := Blk.cell HW.out.s 3
  have HW7 := HW
  go_wp2_with (first
    | ((with_reducible show wpList _ _ _ ({ dst := _, op := Op.build 68 _, type := _, pos := _, after := _, guard := _ } :: _) _ _); refine wpList_buildP rfl 68 [(0, .tmp 202), (1, .const (.int .i64 5)), (3, .tmp 204)] rfl (.agg (rpC ⟨id, 5, 0, S.fork, [], []⟩ (.slice ha fd.length hac) nilS nilS)) (fun w => by kernel_rfl) ?_)
    | ((with_reducible show wpList _ _ _ ({ dst := _, op := Op.store 68 _ _, type := _, pos := _, after := _, guard := _ } :: _) _ _); refine wpList_store_blk rfl 68 _ _ rfl (w.heap.size + 1 + 1) rfl (rpC ⟨id, 5, 0, S.fork, [], []⟩ (.slice ha fd.length hac) nilS nilS) rfl _ _ HW7.out.y rfl Tryd.sizeRpS (rpC_oneS _ _ _ _ rfl rfl rfl) ?_))
  have HY8 := hid (HW7.out.y.setRow (cs' := (rpC ⟨id, 5, 0, S.fork, [], []⟩ (.slice ha fd.length hac) nilS nilS)))
  have HB8 := hid (HW7.out.be.setRow (g := w.heap.size + 1 + 1) (by omega) (rpC ⟨id, 5, 0, S.fork, [], []⟩ (.slice ha fd.length hac) nilS nilS))
  refine bodyPost_ret (results_cell_row rfl _ _ (w.heap.size + 1 + 1) 68 _ (0, 0) _ rfl HY8.out Tryd.underlying68 rfl Tryd.sizeRpS) rfl ?_
  exact ⟨_, _, _, fd, rfl, ⟨(HX.out.below HB8.out).fork, HK.out, strsNil _, slNilP _⟩, HB8.out⟩
set_option maxHeartbeats 8000000 in
theorem ranswer_entries_arg (S : Src) (ve vl vh vf : Value) (hd fd : List Sg) (id fr ct sz : Int) (w : World) (hX : SrcIn w S ve vl vh vf hd fd) (hs : SrcSmall S) (hc : ct < 1 ∨ 16 < ct ∨ fr < 0) :
    Calls Tryd.prog 34 #[.agg (srcC ve vl vh vf), Rq.v ⟨id, 2, fr, ct, sz⟩] w fun e w' => AnsR w (ansRp S ⟨id, 2, fr, ct, sz⟩) e w' := by
  have hE : ansRp S ⟨id, 2, fr, ct, sz⟩ = failRp id 2 := by simp [ansRp, entRp, hc]
  rw [hE]
  clear hE
  have F := hid (fun w0 => fails_any id 2 w0)
  have HC := hid hc
  have SZ := hid (fun w' (hb : Below w.heap.size w w') => rsize_any S ve vl vh vf hd fd w' (hX.below hb) hs)
  generalize sizeS S = N at *
  clear hX hs hc
  go_enter Tryd.func34, Tryd.ntmps34
  go_upto_region 1 with fail
  refine wp_world (fun W => SrvW w W 63 (srcC ve vl vh vf) (Rq.cs ⟨id, 2, fr, ct, sz⟩)) (SrvW.new _ _ _ _) ?_
  intro w0 hW
  have HW0 := hid hW
  clear hW
  go_upto_region 2 with (first
    | ((with_reducible show wpList _ _ _ ({ dst := _, op := Op.load 63 _, type := _, pos := _, after := _, guard := _ } :: _) _ _); refine wpList_load_blk rfl 63 _ rfl w.heap.size rfl 63 (srcC ve vl vh vf) _ HW0.out.s Tryd.underlying63 rfl Tryd.sizeSrcR ?_)
    | (go_at_call 31; refine (SZ.out _ HW0.out.be).mono ?_; rintro e w3 ⟨rfl, hb3⟩))
  have HW := hid (HW0.out.later hb3)
  clear hb3 SZ HW0
  have r0 : w3.cell? ⟨w.heap.size + 1, 0, none⟩ = some (.int .i64 id) := Blk.cell HW.out.r 0
  have r1 : w3.cell? ⟨w.heap.size + 1, 1, none⟩ = some (.int .i64 2) := Blk.cell HW.out.r 1
  have r2 : w3.cell? ⟨w.heap.size + 1, 2, none⟩ = some (.int .i64 fr) := Blk.cell HW.out.r 2
  have r3 : w3.cell? ⟨w.heap.size + 1, 3, none⟩ = some (.int .i64 ct) := Blk.cell HW.out.r 3
  by_cases c1 : ct < 1
  · have d1 : decide (ct < 1) = true := by simpa using c1
    clear c1
    go_wp2_with (first
      | (go_at_call 59; refine (F.out _).mono ?_; rintro e w9 ⟨rfl, hb9⟩)
      | ((with_reducible show wpList _ _ _ ({ dst := _, op := Op.store 68 _ _, type := _, pos := _, after := _, guard := _ } :: _) _ _); refine wpList_store_blk rfl 68 _ _ rfl (w.heap.size + 1 + 1) rfl (rpC (failRp id 2) nilS nilS nilS) rfl _ _ (HW.out.y.later hb9) rfl Tryd.sizeRpS (rpC_oneS _ _ _ _ rfl rfl rfl) ?_))
    refine bodyPost_ret (results_cell_row rfl _ _ (w.heap.size + 1 + 1) 68 _ (0, 0) _ rfl ((HW.out.y.later hb9).setRow) Tryd.underlying68 rfl Tryd.sizeRpS) rfl ?_
    exact ⟨_, _, _, [], rfl, failIn _ _ _, (bth HW.out.be hb9).setRow (by omega) _⟩
  · have d1 : decide (ct < 1) = false := by simpa using c1
    by_cases c2 : 16 < ct
    · have d2 : decide (16 < ct) = true := by simpa using c2
      clear c1 c2
      go_wp2_with (first
        | (go_at_call 59; refine (F.out _).mono ?_; rintro e w9 ⟨rfl, hb9⟩)
        | ((with_reducible show wpList _ _ _ ({ dst := _, op := Op.store 68 _ _, type := _, pos := _, after := _, guard := _ } :: _) _ _); refine wpList_store_blk rfl 68 _ _ rfl (w.heap.size + 1 + 1) rfl (rpC (failRp id 2) nilS nilS nilS) rfl _ _ (HW.out.y.later hb9) rfl Tryd.sizeRpS (rpC_oneS _ _ _ _ rfl rfl rfl) ?_))
      refine bodyPost_ret (results_cell_row rfl _ _ (w.heap.size + 1 + 1) 68 _ (0, 0) _ rfl ((HW.out.y.later hb9).setRow) Tryd.underlying68 rfl Tryd.sizeRpS) rfl ?_
      exact ⟨_, _, _, [], rfl, failIn _ _ _, (bth HW.out.be hb9).setRow (by omega) _⟩
    · have d2 : decide (16 < ct) = false := by simpa using c2
      have d3 : decide (fr < 0) = true := by have := HC.out; simp; omega
      clear c1 c2
      go_wp2_with (first
        | (go_at_call 59; refine (F.out _).mono ?_; rintro e w9 ⟨rfl, hb9⟩)
        | ((with_reducible show wpList _ _ _ ({ dst := _, op := Op.store 68 _ _, type := _, pos := _, after := _, guard := _ } :: _) _ _); refine wpList_store_blk rfl 68 _ _ rfl (w.heap.size + 1 + 1) rfl (rpC (failRp id 2) nilS nilS nilS) rfl _ _ (HW.out.y.later hb9) rfl Tryd.sizeRpS (rpC_oneS _ _ _ _ rfl rfl rfl) ?_))
      refine bodyPost_ret (results_cell_row rfl _ _ (w.heap.size + 1 + 1) 68 _ (0, 0) _ rfl ((HW.out.y.later hb9).setRow) Tryd.underlying68 rfl Tryd.sizeRpS) rfl ?_
      exact ⟨_, _, _, [], rfl, failIn _ _ _, (bth HW.out.be hb9).setRow (by omega) _⟩
set_option maxHeartbeats 8000000 in
theorem ranswer_entries_range (S : Src) (ve vl vh vf : Value) (hd fd : List Sg) (id fr ct sz : Int) (w : World) (hX : SrcIn w S ve vl vh vf hd fd) (hs : SrcSmall S) (hn : ¬ (ct < 1 ∨ 16 < ct ∨ fr < 0)) (hc : sizeS S < sz ∨ sz < ct ∨ sz - ct < fr) :
    Calls Tryd.prog 34 #[.agg (srcC ve vl vh vf), Rq.v ⟨id, 2, fr, ct, sz⟩] w fun e w' => AnsR w (ansRp S ⟨id, 2, fr, ct, sz⟩) e w' := by
  have hE : ansRp S ⟨id, 2, fr, ct, sz⟩ = failRp id 82 := by simp [ansRp, entRp, hc, hn]
  rw [hE]
  clear hE
  have hsz := sizeS_in S
  have he1 := hs.e1
  have d1 : decide (ct < 1) = false := by simp; omega
  have d2 : decide (16 < ct) = false := by simp; omega
  have d3 : decide (fr < 0) = false := by simp; omega
  have F := hid (fun w0 => fails_any id 82 w0)
  have SZ := hid (fun w' (hb : Below w.heap.size w w') => rsize_any S ve vl vh vf hd fd w' (hX.below hb) hs)
  generalize sizeS S = n at *
  clear hX hs
  go_enter Tryd.func34, Tryd.ntmps34
  go_upto_region 1 with fail
  refine wp_world (fun W => SrvW w W 63 (srcC ve vl vh vf) (Rq.cs ⟨id, 2, fr, ct, sz⟩)) (SrvW.new _ _ _ _) ?_
  intro w0 hW
  have HW0 := hid hW
  clear hW
  go_upto_region 2 with (first
    | ((with_reducible show wpList _ _ _ ({ dst := _, op := Op.load 63 _, type := _, pos := _, after := _, guard := _ } :: _) _ _); refine wpList_load_blk rfl 63 _ rfl w.heap.size rfl 63 (srcC ve vl vh vf) _ HW0.out.s Tryd.underlying63 rfl Tryd.sizeSrcR ?_)
    | (go_at_call 31; refine (SZ.out _ HW0.out.be).mono ?_; rintro e w3 ⟨rfl, hb3⟩))
  have HW := hid (HW0.out.later hb3)
  clear hb3 SZ HW0
  have r0 : w3.cell? ⟨w.heap.size + 1, 0, none⟩ = some (.int .i64 id) := Blk.cell HW.out.r 0
  have r1 : w3.cell? ⟨w.heap.size + 1, 1, none⟩ = some (.int .i64 2) := Blk.cell HW.out.r 1
  have r2 : w3.cell? ⟨w.heap.size + 1, 2, none⟩ = some (.int .i64 fr) := Blk.cell HW.out.r 2
  have r3 : w3.cell? ⟨w.heap.size + 1, 3, none⟩ = some (.int .i64 ct) := Blk.cell HW.out.r 3
  have r4 : w3.cell? ⟨w.heap.size + 1, 4, none⟩ = some (.int .i64 sz) := Blk.cell HW.out.r 4
  by_cases c1 : n < sz
  · have e1 : decide (n < sz) = true := by simpa using c1
    clear c1 hc hn hsz
    go_wp2_with (first
      | (go_at_call 59; refine (F.out _).mono ?_; rintro e w9 ⟨rfl, hb9⟩)
      | ((with_reducible show wpList _ _ _ ({ dst := _, op := Op.store 68 _ _, type := _, pos := _, after := _, guard := _ } :: _) _ _); refine wpList_store_blk rfl 68 _ _ rfl (w.heap.size + 1 + 1) rfl (rpC (failRp id 82) nilS nilS nilS) rfl _ _ (HW.out.y.later hb9) rfl Tryd.sizeRpS (rpC_oneS _ _ _ _ rfl rfl rfl) ?_))
    refine bodyPost_ret (results_cell_row rfl _ _ (w.heap.size + 1 + 1) 68 _ (0, 0) _ rfl ((HW.out.y.later hb9).setRow) Tryd.underlying68 rfl Tryd.sizeRpS) rfl ?_
    exact ⟨_, _, _, [], rfl, failIn _ _ _, (bth HW.out.be hb9).setRow (by omega) _⟩
  · have e1 : decide (n < sz) = false := by simpa using c1
    by_cases c2 : sz < 0
    · have e2 : decide (sz < 0) = true := by simpa using c2
      clear c1 c2 hc hn hsz
      go_wp2_with (first
        | (go_at_call 59; refine (F.out _).mono ?_; rintro e w9 ⟨rfl, hb9⟩)
        | ((with_reducible show wpList _ _ _ ({ dst := _, op := Op.store 68 _ _, type := _, pos := _, after := _, guard := _ } :: _) _ _); refine wpList_store_blk rfl 68 _ _ rfl (w.heap.size + 1 + 1) rfl (rpC (failRp id 82) nilS nilS nilS) rfl _ _ (HW.out.y.later hb9) rfl Tryd.sizeRpS (rpC_oneS _ _ _ _ rfl rfl rfl) ?_))
      refine bodyPost_ret (results_cell_row rfl _ _ (w.heap.size + 1 + 1) 68 _ (0, 0) _ rfl ((HW.out.y.later hb9).setRow) Tryd.underlying68 rfl Tryd.sizeRpS) rfl ?_
      exact ⟨_, _, _, [], rfl, failIn _ _ _, (bth HW.out.be hb9).setRow (by omega) _⟩
    · have e2 : decide (sz < 0) = false := by simpa using c2
      by_cases c3 : sz < fr
      · have e3 : decide (sz < fr) = true := by simpa using c3
        clear c1 c2 c3 hc hn hsz
        go_wp2_with (first
          | (go_at_call 59; refine (F.out _).mono ?_; rintro e w9 ⟨rfl, hb9⟩)
          | ((with_reducible show wpList _ _ _ ({ dst := _, op := Op.store 68 _ _, type := _, pos := _, after := _, guard := _ } :: _) _ _); refine wpList_store_blk rfl 68 _ _ rfl (w.heap.size + 1 + 1) rfl (rpC (failRp id 82) nilS nilS nilS) rfl _ _ (HW.out.y.later hb9) rfl Tryd.sizeRpS (rpC_oneS _ _ _ _ rfl rfl rfl) ?_))
        refine bodyPost_ret (results_cell_row rfl _ _ (w.heap.size + 1 + 1) 68 _ (0, 0) _ rfl ((HW.out.y.later hb9).setRow) Tryd.underlying68 rfl Tryd.sizeRpS) rfl ?_
        exact ⟨_, _, _, [], rfl, failIn _ _ _, (bth HW.out.be hb9).setRow (by omega) _⟩
      · have e3 : decide (sz < fr) = false := by simpa using c3
        obtain ⟨k, hk⟩ : ∃ k, fr + ct = k := ⟨_, rfl⟩
        have hw : wrap64 (fr + ct) = fr + ct := by unfold wrap64; omega
        have hw2 : IntKind.i64.wrap (fr + ct) = fr + ct := IntWalk.i64_in _ (by omega)
        rw [hk] at hw hw2
        have e4 : decide (sz < k) = true := by simp; omega
        clear c1 c2 c3 hc hn hsz
        go_wp2_with (first
          | (go_at_call 59; refine (F.out _).mono ?_; rintro e w9 ⟨rfl, hb9⟩)
          | ((with_reducible show wpList _ _ _ ({ dst := _, op := Op.store 68 _ _, type := _, pos := _, after := _, guard := _ } :: _) _ _); refine wpList_store_blk rfl 68 _ _ rfl (w.heap.size + 1 + 1) rfl (rpC (failRp id 82) nilS nilS nilS) rfl _ _ (HW.out.y.later hb9) rfl Tryd.sizeRpS (rpC_oneS _ _ _ _ rfl rfl rfl) ?_))
        refine bodyPost_ret (results_cell_row rfl _ _ (w.heap.size + 1 + 1) 68 _ (0, 0) _ rfl ((HW.out.y.later hb9).setRow) Tryd.underlying68 rfl Tryd.sizeRpS) rfl ?_
        exact ⟨_, _, _, [], rfl, failIn _ _ _, (bth HW.out.be hb9).setRow (by omega) _⟩
set_option maxHeartbeats 8000000 in
theorem ranswer_entries_ok (S : Src) (ve vl vh vf : Value) (hd fd : List Sg) (id fr ct sz : Int) (w : World) (hX : SrcIn w S ve vl vh vf hd fd) (hs : SrcSmall S) (hn : ¬ (ct < 1 ∨ 16 < ct ∨ fr < 0)) (hc : ¬ (sizeS S < sz ∨ sz < ct ∨ sz - ct < fr)) :
    Calls Tryd.prog 34 #[.agg (srcC ve vl vh vf), Rq.v ⟨id, 2, fr, ct, sz⟩] w fun e w' => AnsR w (ansRp S ⟨id, 2, fr, ct, sz⟩) e w' := by
  have hE : ansRp S ⟨id, 2, fr, ct, sz⟩ = ⟨id, 3, 0, [], (S.entries.take (fr + ct).toNat).drop fr.toNat, rprX (S.leaves.take sz.toNat) (fr + ct)⟩ := by simp [ansRp, entRp, hc, hn]
  rw [hE]
  clear hE
  have hsz := sizeS_in S
  have he1 := hs.e1; have hl1 := hs.l1
  obtain ⟨ea, eac, rfl, _⟩ := hX.entries.form
  obtain ⟨la, lac, rfl, _⟩ := hX.leaves.formH
  have HX := hid hX; have HS := hid hs
  obtain ⟨f, rfl⟩ : ∃ f : Nat, fr = f := ⟨fr.toNat, by omega⟩
  obtain ⟨c, rfl⟩ : ∃ c : Nat, ct = c := ⟨ct.toNat, by omega⟩
  obtain ⟨n, rfl⟩ : ∃ n : Nat, sz = n := ⟨sz.toNat, by omega⟩
  obtain ⟨m, hm⟩ : ∃ m, f + c = m := ⟨_, rfl⟩
  have efc : (f : Int) + (c : Int) = (m : Int) := by omega
  rw [efc, Int.toNat_natCast, Int.toNat_natCast, Int.toNat_natCast]
  have hmn : m ≤ n := by omega
  have hnl : n ≤ S.leaves.length := by omega
  have hne : n ≤ S.entries.length := by omega
  have d1 : decide ((c : Int) < 1) = false := by simp; omega
  have d2 : decide ((16 : Int) < (c : Int)) = false := by simp; omega
  have d3 : decide ((f : Int) < 0) = false := by simp
  have e1 : decide (sizeS S < (n : Int)) = false := by simp; omega
  have e2 : decide ((n : Int) < 0) = false := by simp
  have e3 : decide (n < f) = false := by simp; omega
  have e4 : decide (n < m) = false := by simp; omega
  obtain ⟨a2, c2, hr2, hS2⟩ := hX.leaves.takeR 22 29 Tryd.underlying22 Tryd.sizeHash (n : Int) n rfl (by rw [hcs_length]; omega)
  rw [hcs_take] at hS2
  obtain ⟨a3, c3, hr3, hS3⟩ := SlAt.midR hX.entries 56 9 Tryd.underlying56 Tryd.sizeStrS (f : Int) (m : Int) f m rfl rfl (by omega) (by unfold scells; rw [List.length_map]; omega)
  rw [scells_take, scells_drop] at hS3
  have emf : m - f = c := by omega
  rw [emf] at hr3 hS3
  have hEl : ((S.entries.take m).drop f).length = c := by rw [List.length_drop, List.length_take]; omega
  have PP := hid (fun w' (hb : Below w.heap.size w w') => rproofNat S.leaves (.slice a2 n c2) m n w' (by omega) hnl hmn (hS2.below hb (Nat.le_refl _)))
  have SZ := hid (fun w' (hb : Below w.heap.size w w') => rsize_any S (.slice ea S.entries.length eac) (.slice la S.leaves.length lac) vh vf hd fd w' (HX.out.below hb) HS.out)
  generalize rprX (S.leaves.take n) (m : Int) = PX at *
  generalize (S.entries.take m).drop f = EX at *
  generalize sizeS S = N at *
  have HS3 := hid hS3
  have hc16 : c ≤ 16 := by omega
  have hn80 : n ≤ 80 := by omega
  have hm80 : m ≤ 80 := by omega
  clear hX hs hS2 hS3 hc hn emf hEl hm
  go_enter Tryd.func34, Tryd.ntmps34
  go_upto_region 1 with fail
  refine wp_world (fun W => SrvW w W 63 (srcC (.slice ea S.entries.length eac) (.slice la S.leaves.length lac) vh vf) (Rq.cs ⟨id, 2, f, c, n⟩)) (SrvW.new _ _ _ _) ?_
  intro w0 hW
  have HW0 := hid hW
  clear hW
  go_upto_region 2 with (first
    | ((with_reducible show wpList _ _ _ ({ dst := _, op := Op.load 63 _, type := _, pos := _, after := _, guard := _ } :: _) _ _); refine wpList_load_blk rfl 63 _ rfl w.heap.size rfl 63 (srcC (.slice ea S.entries.length eac) (.slice la S.leaves.length lac) vh vf) _ HW0.out.s Tryd.underlying63 rfl Tryd.sizeSrcR ?_)
    | (go_at_call 31; refine (SZ.out _ HW0.out.be).mono ?_; rintro e w3 ⟨rfl, hb3⟩))
  have HW := hid (HW0.out.later hb3)
  clear hb3 SZ HW0
  have r1 : w3.cell? ⟨w.heap.size + 1, 1, none⟩ = some (.int .i64 2) := Blk.cell HW.out.r 1
  have r2 : w3.cell? ⟨w.heap.size + 1, 2, none⟩ = some (.int .i64 (f : Int)) := Blk.cell HW.out.r 2
  have r3 : w3.cell? ⟨w.heap.size + 1, 3, none⟩ = some (.int .i64 (c : Int)) := Blk.cell HW.out.r 3
  have r4 : w3.cell? ⟨w.heap.size + 1, 4, none⟩ = some (.int .i64 (n : Int)) := Blk.cell HW.out.r 4
  go_upto_region 12 with fail
  clear r1 r2 r3 r4
  refine wp_region_anyC (by kernel_rfl) ?_
  intro x0 he0 hbx0
  have Hc0 := hid hbx0
  clear hbx0 he0
  show wpAnyC _ _ _ _ _ 16 (Array.replicate 16 false) _ _
  refine wpAnyC_take (i := 0) (v := .pointer (some ⟨w.heap.size, 1, none⟩)) rfl (by kernel_rfl) (by kernel_rfl) (by kernel_rfl) (fun _ _ _ h => h) (Or.inl ⟨by kernel_rfl, ?_⟩) ?_
  · intro w _
    go_simp
    try exact IntWalk.i64_in _ (by omega)
    try omega
  (first | dsimp only [List.getElem_toArray, List.getElem_cons_succ, List.getElem_cons_zero] | dsimp (maxSteps := 10000000) only [List.getElem_toArray, List.getElem_cons_succ, List.getElem_cons_zero] | skip); (first | go_frame | simp (maxSteps := 10000000) only [Act.put, List.setIfInBounds_toArray, List.set_cons_succ, List.set_cons_zero] | skip)
  refine wpAnyC_take (i := 1) (v := .slice la S.leaves.length lac) rfl (by kernel_rfl) (by kernel_rfl) (by kernel_rfl) (fun _ _ _ h => h) (YieldsW.load_one (by kernel_rfl) 22 _ rfl ⟨w.heap.size, 1, none⟩ (by kernel_rfl) (.slice la S.leaves.length lac) _ (fun _ hw => Blk.cell (HW.out.later hw).s 1) Tryd.underlying22 rfl) ?_
  (first | dsimp only [List.getElem_toArray, List.getElem_cons_succ, List.getElem_cons_zero] | dsimp (maxSteps := 10000000) only [List.getElem_toArray, List.getElem_cons_succ, List.getElem_cons_zero] | skip); (first | go_frame | simp (maxSteps := 10000000) only [Act.put, List.setIfInBounds_toArray, List.set_cons_succ, List.set_cons_zero] | skip)
  refine wpAnyC_take (i := 2) (v := .pointer (some ⟨w.heap.size + 1, 4, none⟩)) rfl (by kernel_rfl) (by kernel_rfl) (by kernel_rfl) (fun _ _ _ h => h) (Or.inl ⟨by kernel_rfl, ?_⟩) ?_
  · intro w _
    go_simp
    try exact IntWalk.i64_in _ (by omega)
    try omega
  (first | dsimp only [List.getElem_toArray, List.getElem_cons_succ, List.getElem_cons_zero] | dsimp (maxSteps := 10000000) only [List.getElem_toArray, List.getElem_cons_succ, List.getElem_cons_zero] | skip); (first | go_frame | simp (maxSteps := 10000000) only [Act.put, List.setIfInBounds_toArray, List.set_cons_succ, List.set_cons_zero] | skip)
  refine wpAnyC_take (i := 3) (v := .int .i64 (n : Int)) rfl (by kernel_rfl) (by kernel_rfl) (by kernel_rfl) (fun _ _ _ h => h) (YieldsW.load_one (by kernel_rfl) 3 _ rfl ⟨w.heap.size + 1, 4, none⟩ (by kernel_rfl) (.int .i64 (n : Int)) _ (fun _ hw => Blk.cell (HW.out.later hw).r 4) Tryd.underlying3 rfl) ?_
  (first | dsimp only [List.getElem_toArray, List.getElem_cons_succ, List.getElem_cons_zero] | dsimp (maxSteps := 10000000) only [List.getElem_toArray, List.getElem_cons_succ, List.getElem_cons_zero] | skip); (first | go_frame | simp (maxSteps := 10000000) only [Act.put, List.setIfInBounds_toArray, List.set_cons_succ, List.set_cons_zero] | skip)
  refine wpAnyC_take (i := 4) (v := .slice a2 n c2) rfl (by kernel_rfl) (by kernel_rfl) (by kernel_rfl) (fun _ _ _ h => h) (Or.inl ⟨by kernel_rfl, ?_⟩) ?_
  · intro w _
    go_simp
    try exact IntWalk.i64_in _ (by omega)
    try omega
  (first | dsimp only [List.getElem_toArray, List.getElem_cons_succ, List.getElem_cons_zero] | dsimp (maxSteps := 10000000) only [List.getElem_toArray, List.getElem_cons_succ, List.getElem_cons_zero] | skip); (first | go_frame | simp (maxSteps := 10000000) only [Act.put, List.setIfInBounds_toArray, List.set_cons_succ, List.set_cons_zero] | skip)
  refine wpAnyC_take (i := 5) (v := .pointer (some ⟨w.heap.size + 1, 2, none⟩)) rfl (by kernel_rfl) (by kernel_rfl) (by kernel_rfl) (fun _ _ _ h => h) (Or.inl ⟨by kernel_rfl, ?_⟩) ?_
  · intro w _
    go_simp
    try exact IntWalk.i64_in _ (by omega)
    try omega
  (first | dsimp only [List.getElem_toArray, List.getElem_cons_succ, List.getElem_cons_zero] | dsimp (maxSteps := 10000000) only [List.getElem_toArray, List.getElem_cons_succ, List.getElem_cons_zero] | skip); (first | go_frame | simp (maxSteps := 10000000) only [Act.put, List.setIfInBounds_toArray, List.set_cons_succ, List.set_cons_zero] | skip)
  refine wpAnyC_take (i := 6) (v := .int .i64 (f : Int)) rfl (by kernel_rfl) (by kernel_rfl) (by kernel_rfl) (fun _ _ _ h => h) (YieldsW.load_one (by kernel_rfl) 3 _ rfl ⟨w.heap.size + 1, 2, none⟩ (by kernel_rfl) (.int .i64 (f : Int)) _ (fun _ hw => Blk.cell (HW.out.later hw).r 2) Tryd.underlying3 rfl) ?_
  (first | dsimp only [List.getElem_toArray, List.getElem_cons_succ, List.getElem_cons_zero] | dsimp (maxSteps := 10000000) only [List.getElem_toArray, List.getElem_cons_succ, List.getElem_cons_zero] | skip); (first | go_frame | simp (maxSteps := 10000000) only [Act.put, List.setIfInBounds_toArray, List.set_cons_succ, List.set_cons_zero] | skip)
  refine wpAnyC_take (i := 7) (v := .pointer (some ⟨w.heap.size + 1, 3, none⟩)) rfl (by kernel_rfl) (by kernel_rfl) (by kernel_rfl) (fun _ _ _ h => h) (Or.inl ⟨by kernel_rfl, ?_⟩) ?_
  · intro w _
    go_simp
    try exact IntWalk.i64_in _ (by omega)
    try omega
  (first | dsimp only [List.getElem_toArray, List.getElem_cons_succ, List.getElem_cons_zero] | dsimp (maxSteps := 10000000) only [List.getElem_toArray, List.getElem_cons_succ, List.getElem_cons_zero] | skip); (first | go_frame | simp (maxSteps := 10000000) only [Act.put, List.setIfInBounds_toArray, List.set_cons_succ, List.set_cons_zero] | skip)
  refine wpAnyC_take (i := 8) (v := .int .i64 (c : Int)) rfl (by kernel_rfl) (by kernel_rfl) (by kernel_rfl) (fun _ _ _ h => h) (YieldsW.load_one (by kernel_rfl) 3 _ rfl ⟨w.heap.size + 1, 3, none⟩ (by kernel_rfl) (.int .i64 (c : Int)) _ (fun _ hw => Blk.cell (HW.out.later hw).r 3) Tryd.underlying3 rfl) ?_
  (first | dsimp only [List.getElem_toArray, List.getElem_cons_succ, List.getElem_cons_zero] | dsimp (maxSteps := 10000000) only [List.getElem_toArray, List.getElem_cons_succ, List.getElem_cons_zero] | skip); (first | go_frame | simp (maxSteps := 10000000) only [Act.put, List.setIfInBounds_toArray, List.set_cons_succ, List.set_cons_zero] | skip)
  refine wpAnyC_take (i := 9) (v := .int .i64 (m : Int)) rfl (by kernel_rfl) (by kernel_rfl) (by kernel_rfl) (fun _ _ _ h => h) (Or.inl ⟨by kernel_rfl, ?_⟩) ?_
  · intro w _
    go_simp
    try exact IntWalk.i64_in _ (by omega)
    try omega
  (first | dsimp only [List.getElem_toArray, List.getElem_cons_succ, List.getElem_cons_zero] | dsimp (maxSteps := 10000000) only [List.getElem_toArray, List.getElem_cons_succ, List.getElem_cons_zero] | skip); (first | go_frame | simp (maxSteps := 10000000) only [Act.put, List.setIfInBounds_toArray, List.set_cons_succ, List.set_cons_zero] | skip)
  refine wpAnyC_forced (i := 10) (by kernel_rfl) rfl (Hc0.out) ?_
  (first | dsimp only [List.getElem_toArray, List.getElem_cons_succ, List.getElem_cons_zero] | dsimp (maxSteps := 10000000) only [List.getElem_toArray, List.getElem_cons_succ, List.getElem_cons_zero] | skip); (first | go_frame | simp (maxSteps := 10000000) only [Act.put, List.setIfInBounds_toArray, List.set_cons_succ, List.set_cons_zero] | skip)
  go_wp2_with (go_at_call 47; refine (PP.out _ (bth HW.out.be Hc0.out)).mono ?_; rintro e w5 ⟨⟨p5, rfl, hp5⟩, hb5⟩)
  show wpAnyC _ _ _ _ _ _ _ _ _
  (first | dsimp only [List.getElem_toArray, List.getElem_cons_succ, List.getElem_cons_zero] | dsimp (maxSteps := 10000000) only [List.getElem_toArray, List.getElem_cons_succ, List.getElem_cons_zero] | skip); (first | go_frame | simp (maxSteps := 10000000) only [Act.put, List.setIfInBounds_toArray, List.set_cons_succ, List.set_cons_zero] | skip)
  have Hc5 := hid (bth Hc0.out hb5)
  have HW := hid (HW.out.later Hc5.out)
  clear hb5 Hc0
  obtain ⟨pa, pc, rfl, _⟩ := hp5.formH
  refine wpAnyC_take (i := 11) (v := .tuple #[.slice pa PX.length pc, .int .i64 0]) rfl (by kernel_rfl) (by kernel_rfl) (by kernel_rfl) (fun _ _ _ h => h) (Or.inl ⟨by kernel_rfl, ?_⟩) ?_
  · intro w _
    go_simp
    try exact IntWalk.i64_in _ (by omega)
    try omega
  (first | dsimp only [List.getElem_toArray, List.getElem_cons_succ, List.getElem_cons_zero] | dsimp (maxSteps := 10000000) only [List.getElem_toArray, List.getElem_cons_succ, List.getElem_cons_zero] | skip); (first | go_frame | simp (maxSteps := 10000000) only [Act.put, List.setIfInBounds_toArray, List.set_cons_succ, List.set_cons_zero] | skip)
  refine wpAnyC_take (i := 12) (v := .slice pa PX.length pc) rfl (by kernel_rfl) (by kernel_rfl) (by kernel_rfl) (fun _ _ _ h => h) (Or.inl ⟨by kernel_rfl, ?_⟩) ?_
  · intro w _
    go_simp
    try exact IntWalk.i64_in _ (by omega)
    try omega
  (first | dsimp only [List.getElem_toArray, List.getElem_cons_succ, List.getElem_cons_zero] | dsimp (maxSteps := 10000000) only [List.getElem_toArray, List.getElem_cons_succ, List.getElem_cons_zero] | skip); (first | go_frame | simp (maxSteps := 10000000) only [Act.put, List.setIfInBounds_toArray, List.set_cons_succ, List.set_cons_zero] | skip)
  refine wpAnyC_take (i := 13) (v := .int .i64 0) rfl (by kernel_rfl) (by kernel_rfl) (by kernel_rfl) (fun _ _ _ h => h) (Or.inl ⟨by kernel_rfl, ?_⟩) ?_
  · intro w _
    go_simp
    try exact IntWalk.i64_in _ (by omega)
    try omega
  (first | dsimp only [List.getElem_toArray, List.getElem_cons_succ, List.getElem_cons_zero] | dsimp (maxSteps := 10000000) only [List.getElem_toArray, List.getElem_cons_succ, List.getElem_cons_zero] | skip); (first | go_frame | simp (maxSteps := 10000000) only [Act.put, List.setIfInBounds_toArray, List.set_cons_succ, List.set_cons_zero] | skip)
  refine wpAnyC_take (i := 14) (v := .slice pa PX.length pc) rfl (by kernel_rfl) (by kernel_rfl) (by kernel_rfl) (fun _ _ _ h => h) (Or.inl ⟨by kernel_rfl, ?_⟩) ?_
  · intro w _
    go_simp
    try exact IntWalk.i64_in _ (by omega)
    try omega
  (first | dsimp only [List.getElem_toArray, List.getElem_cons_succ, List.getElem_cons_zero] | dsimp (maxSteps := 10000000) only [List.getElem_toArray, List.getElem_cons_succ, List.getElem_cons_zero] | skip); (first | go_frame | simp (maxSteps := 10000000) only [Act.put, List.setIfInBounds_toArray, List.set_cons_succ, List.set_cons_zero] | skip)
  refine wpAnyC_take (i := 15) (v := .int .i64 0) rfl (by kernel_rfl) (by kernel_rfl) (by kernel_rfl) (fun _ _ _ h => h) (Or.inl ⟨by kernel_rfl, ?_⟩) ?_
  · intro w _
    go_simp
    try exact IntWalk.i64_in _ (by omega)
    try omega
  (first | dsimp only [List.getElem_toArray, List.getElem_cons_succ, List.getElem_cons_zero] | dsimp (maxSteps := 10000000) only [List.getElem_toArray, List.getElem_cons_succ, List.getElem_cons_zero] | skip); (first | go_frame | simp (maxSteps := 10000000) only [Act.put, List.setIfInBounds_toArray, List.set_cons_succ, List.set_cons_zero] | skip)
  refine wpAnyC_done (by kernel_rfl) Hc5.out ?_ _
  (first | dsimp only [List.getElem_toArray, List.getElem_cons_succ, List.getElem_cons_zero] | dsimp (maxSteps := 10000000) only [List.getElem_toArray, List.getElem_cons_succ, List.getElem_cons_zero] | skip); (first | go_frame | simp (maxSteps := 10000000) only [Act.put, List.setIfInBounds_toArray, List.set_cons_succ, List.set_cons_zero] | skip)
  go_upto_region 15 with fail
  have HP5 := hid hp5
  clear hp5 PP
  refine wp_region_anyK 14 (fun w' => Below w5.heap.size w5 w') (by kernel_rfl) ?_
  intro x0 he0 hbx0
  have Hc0 := hid hbx0
  clear hbx0 he0
  show wpAnyK _ _ _ _ _ _ 15 (Array.replicate 15 false) _ _
  refine wpAnyK_take (i := 0) (v := .pointer (some ⟨w.heap.size + 1, 0, none⟩)) rfl (by kernel_rfl) (by kernel_rfl) (by kernel_rfl) (fun _ _ _ h => h) (by kernel_rfl) (Or.inl ⟨by kernel_rfl, ?_⟩) ?_
  · intro w _
    go_simp
    try exact IntWalk.i64_in _ (by omega)
    try omega
  (first | dsimp only [List.getElem_toArray, List.getElem_cons_succ, List.getElem_cons_zero] | dsimp (maxSteps := 10000000) only [List.getElem_toArray, List.getElem_cons_succ, List.getElem_cons_zero] | skip); (first | go_frame | simp (maxSteps := 10000000) only [Act.put, List.setIfInBounds_toArray, List.set_cons_succ, List.set_cons_zero] | skip)
  refine wpAnyK_take (i := 1) (v := .int .i64 id) rfl (by kernel_rfl) (by kernel_rfl) (by kernel_rfl) (fun _ _ _ h => h) (by kernel_rfl) (YieldsW.load_one (by kernel_rfl) 3 _ rfl ⟨w.heap.size + 1, 0, none⟩ (by kernel_rfl) (.int .i64 id) _ (fun _ hw => Blk.cell (HW.out.later hw).r 0) Tryd.underlying3 rfl) ?_
  (first | dsimp only [List.getElem_toArray, List.getElem_cons_succ, List.getElem_cons_zero] | dsimp (maxSteps := 10000000) only [List.getElem_toArray, List.getElem_cons_succ, List.getElem_cons_zero] | skip); (first | go_frame | simp (maxSteps := 10000000) only [Act.put, List.setIfInBounds_toArray, List.set_cons_succ, List.set_cons_zero] | skip)
  refine wpAnyK_take (i := 2) (v := .pointer (some ⟨w.heap.size, 0, none⟩)) rfl (by kernel_rfl) (by kernel_rfl) (by kernel_rfl) (fun _ _ _ h => h) (by kernel_rfl) (Or.inl ⟨by kernel_rfl, ?_⟩) ?_
  · intro w _
    go_simp
    try exact IntWalk.i64_in _ (by omega)
    try omega
  (first | dsimp only [List.getElem_toArray, List.getElem_cons_succ, List.getElem_cons_zero] | dsimp (maxSteps := 10000000) only [List.getElem_toArray, List.getElem_cons_succ, List.getElem_cons_zero] | skip); (first | go_frame | simp (maxSteps := 10000000) only [Act.put, List.setIfInBounds_toArray, List.set_cons_succ, List.set_cons_zero] | skip)
  refine wpAnyK_take (i := 3) (v := .slice ea S.entries.length eac) rfl (by kernel_rfl) (by kernel_rfl) (by kernel_rfl) (fun _ _ _ h => h) (by kernel_rfl) (YieldsW.load_one (by kernel_rfl) 56 _ rfl ⟨w.heap.size, 0, none⟩ (by kernel_rfl) (.slice ea S.entries.length eac) _ (fun _ hw => Blk.cell (HW.out.later hw).s 0) Tryd.underlying56 rfl) ?_
  (first | dsimp only [List.getElem_toArray, List.getElem_cons_succ, List.getElem_cons_zero] | dsimp (maxSteps := 10000000) only [List.getElem_toArray, List.getElem_cons_succ, List.getElem_cons_zero] | skip); (first | go_frame | simp (maxSteps := 10000000) only [Act.put, List.setIfInBounds_toArray, List.set_cons_succ, List.set_cons_zero] | skip)
  refine wpAnyK_take (i := 4) (v := .pointer (some ⟨w.heap.size + 1, 2, none⟩)) rfl (by kernel_rfl) (by kernel_rfl) (by kernel_rfl) (fun _ _ _ h => h) (by kernel_rfl) (Or.inl ⟨by kernel_rfl, ?_⟩) ?_
  · intro w _
    go_simp
    try exact IntWalk.i64_in _ (by omega)
    try omega
  (first | dsimp only [List.getElem_toArray, List.getElem_cons_succ, List.getElem_cons_zero] | dsimp (maxSteps := 10000000) only [List.getElem_toArray, List.getElem_cons_succ, List.getElem_cons_zero] | skip); (first | go_frame | simp (maxSteps := 10000000) only [Act.put, List.setIfInBounds_toArray, List.set_cons_succ, List.set_cons_zero] | skip)
  refine wpAnyK_take (i := 5) (v := .int .i64 (f : Int)) rfl (by kernel_rfl) (by kernel_rfl) (by kernel_rfl) (fun _ _ _ h => h) (by kernel_rfl) (YieldsW.load_one (by kernel_rfl) 3 _ rfl ⟨w.heap.size + 1, 2, none⟩ (by kernel_rfl) (.int .i64 (f : Int)) _ (fun _ hw => Blk.cell (HW.out.later hw).r 2) Tryd.underlying3 rfl) ?_
  (first | dsimp only [List.getElem_toArray, List.getElem_cons_succ, List.getElem_cons_zero] | dsimp (maxSteps := 10000000) only [List.getElem_toArray, List.getElem_cons_succ, List.getElem_cons_zero] | skip); (first | go_frame | simp (maxSteps := 10000000) only [Act.put, List.setIfInBounds_toArray, List.set_cons_succ, List.set_cons_zero] | skip)
  refine wpAnyK_take (i := 6) (v := .pointer (some ⟨w.heap.size + 1, 2, none⟩)) rfl (by kernel_rfl) (by kernel_rfl) (by kernel_rfl) (fun _ _ _ h => h) (by kernel_rfl) (Or.inl ⟨by kernel_rfl, ?_⟩) ?_
  · intro w _
    go_simp
    try exact IntWalk.i64_in _ (by omega)
    try omega
  (first | dsimp only [List.getElem_toArray, List.getElem_cons_succ, List.getElem_cons_zero] | dsimp (maxSteps := 10000000) only [List.getElem_toArray, List.getElem_cons_succ, List.getElem_cons_zero] | skip); (first | go_frame | simp (maxSteps := 10000000) only [Act.put, List.setIfInBounds_toArray, List.set_cons_succ, List.set_cons_zero] | skip)
  refine wpAnyK_take (i := 7) (v := .int .i64 (f : Int)) rfl (by kernel_rfl) (by kernel_rfl) (by kernel_rfl) (fun _ _ _ h => h) (by kernel_rfl) (YieldsW.load_one (by kernel_rfl) 3 _ rfl ⟨w.heap.size + 1, 2, none⟩ (by kernel_rfl) (.int .i64 (f : Int)) _ (fun _ hw => Blk.cell (HW.out.later hw).r 2) Tryd.underlying3 rfl) ?_
  (first | dsimp only [List.getElem_toArray, List.getElem_cons_succ, List.getElem_cons_zero] | dsimp (maxSteps := 10000000) only [List.getElem_toArray, List.getElem_cons_succ, List.getElem_cons_zero] | skip); (first | go_frame | simp (maxSteps := 10000000) only [Act.put, List.setIfInBounds_toArray, List.set_cons_succ, List.set_cons_zero] | skip)
  refine wpAnyK_take (i := 8) (v := .pointer (some ⟨w.heap.size + 1, 3, none⟩)) rfl (by kernel_rfl) (by kernel_rfl) (by kernel_rfl) (fun _ _ _ h => h) (by kernel_rfl) (Or.inl ⟨by kernel_rfl, ?_⟩) ?_
  · intro w _
    go_simp
    try exact IntWalk.i64_in _ (by omega)
    try omega
  (first | dsimp only [List.getElem_toArray, List.getElem_cons_succ, List.getElem_cons_zero] | dsimp (maxSteps := 10000000) only [List.getElem_toArray, List.getElem_cons_succ, List.getElem_cons_zero] | skip); (first | go_frame | simp (maxSteps := 10000000) only [Act.put, List.setIfInBounds_toArray, List.set_cons_succ, List.set_cons_zero] | skip)
  refine wpAnyK_take (i := 9) (v := .int .i64 (c : Int)) rfl (by kernel_rfl) (by kernel_rfl) (by kernel_rfl) (fun _ _ _ h => h) (by kernel_rfl) (YieldsW.load_one (by kernel_rfl) 3 _ rfl ⟨w.heap.size + 1, 3, none⟩ (by kernel_rfl) (.int .i64 (c : Int)) _ (fun _ hw => Blk.cell (HW.out.later hw).r 3) Tryd.underlying3 rfl) ?_
  (first | dsimp only [List.getElem_toArray, List.getElem_cons_succ, List.getElem_cons_zero] | dsimp (maxSteps := 10000000) only [List.getElem_toArray, List.getElem_cons_succ, List.getElem_cons_zero] | skip); (first | go_frame | simp (maxSteps := 10000000) only [Act.put, List.setIfInBounds_toArray, List.set_cons_succ, List.set_cons_zero] | skip)
  refine wpAnyK_take (i := 10) (v := .int .i64 (m : Int)) rfl (by kernel_rfl) (by kernel_rfl) (by kernel_rfl) (fun _ _ _ h => h) (by kernel_rfl) (Or.inl ⟨by kernel_rfl, ?_⟩) ?_
  · intro w _
    go_simp
    try exact IntWalk.i64_in _ (by omega)
    try omega
  (first | dsimp only [List.getElem_toArray, List.getElem_cons_succ, List.getElem_cons_zero] | dsimp (maxSteps := 10000000) only [List.getElem_toArray, List.getElem_cons_succ, List.getElem_cons_zero] | skip); (first | go_frame | simp (maxSteps := 10000000) only [Act.put, List.setIfInBounds_toArray, List.set_cons_succ, List.set_cons_zero] | skip)
  refine wpAnyK_take (i := 11) (v := .slice a3 c c3) rfl (by kernel_rfl) (by kernel_rfl) (by kernel_rfl) (fun _ _ _ h => h) (by kernel_rfl) (Or.inl ⟨by kernel_rfl, ?_⟩) ?_
  · intro w _
    go_simp
    try exact IntWalk.i64_in _ (by omega)
    try omega
  (first | dsimp only [List.getElem_toArray, List.getElem_cons_succ, List.getElem_cons_zero] | dsimp (maxSteps := 10000000) only [List.getElem_toArray, List.getElem_cons_succ, List.getElem_cons_zero] | skip); (first | go_frame | simp (maxSteps := 10000000) only [Act.put, List.setIfInBounds_toArray, List.set_cons_succ, List.set_cons_zero] | skip)
  refine wpAnyK_take (i := 12) (v := .slice pa PX.length pc) rfl (by kernel_rfl) (by kernel_rfl) (by kernel_rfl) (fun _ _ _ h => h) (by kernel_rfl) (Or.inl ⟨by kernel_rfl, ?_⟩) ?_
  · intro w _
    go_simp
    try exact IntWalk.i64_in _ (by omega)
    try omega
  (first | dsimp only [List.getElem_toArray, List.getElem_cons_succ, List.getElem_cons_zero] | dsimp (maxSteps := 10000000) only [List.getElem_toArray, List.getElem_cons_succ, List.getElem_cons_zero] | skip); (first | go_frame | simp (maxSteps := 10000000) only [Act.put, List.setIfInBounds_toArray, List.set_cons_succ, List.set_cons_zero] | skip)
  refine wpAnyK_forced (i := 13) (by kernel_rfl) rfl (fun _ => Hc0.out) ?_
  (first | dsimp only [List.getElem_toArray, List.getElem_cons_succ, List.getElem_cons_zero] | dsimp (maxSteps := 10000000) only [List.getElem_toArray, List.getElem_cons_succ, List.getElem_cons_zero] | skip); (first | go_frame | simp (maxSteps := 10000000) only [Act.put, List.setIfInBounds_toArray, List.set_cons_succ, List.set_cons_zero] | skip)
  refine wpList_buildP rfl 68 [(0, .tmp 98), (1, .const (.int .i64 3)), (4, .tmp 108), (5, .tmp 109)] rfl (.agg (rpC ⟨id, 3, 0, [], EX, PX⟩ nilS (.slice a3 c c3) (.slice pa PX.length pc))) (fun w => by kernel_rfl) ?_
  refine wpList_nil ?_
  show wpAnyK _ _ _ _ _ _ _ _ _ _
  (first | dsimp only [List.getElem_toArray, List.getElem_cons_succ, List.getElem_cons_zero] | dsimp (maxSteps := 10000000) only [List.getElem_toArray, List.getElem_cons_succ, List.getElem_cons_zero] | skip); (first | go_frame | simp (maxSteps := 10000000) only [Act.put, List.setIfInBounds_toArray, List.set_cons_succ, List.set_cons_zero] | skip)
  have HW7 := hid (HW.out.later Hc0.out)
  have HP7 := hid (HP5.out.below Hc0.out (Nat.le_refl _))
  refine wpAnyK_forced (i := 14) (by kernel_rfl) rfl (fun _ => Hc0.out) ?_
  (first | dsimp only [List.getElem_toArray, List.getElem_cons_succ, List.getElem_cons_zero] | dsimp (maxSteps := 10000000) only [List.getElem_toArray, List.getElem_cons_succ, List.getElem_cons_zero] | skip); (first | go_frame | simp (maxSteps := 10000000) only [Act.put, List.setIfInBounds_toArray, List.set_cons_succ, List.set_cons_zero] | skip)
  refine wpList_store_blk rfl 68 _ _ rfl (w.heap.size + 1 + 1) rfl (rpC ⟨id, 3, 0, [], EX, PX⟩ nilS (.slice a3 c c3) (.slice pa PX.length pc)) rfl _ _ HW7.out.y rfl Tryd.sizeRpS (rpC_oneS _ _ _ _ rfl rfl rfl) ?_
  refine wpList_nil ?_
  show wpAnyK _ _ _ _ _ _ _ _ _ _
  (first | dsimp only [List.getElem_toArray, List.getElem_cons_succ, List.getElem_cons_zero] | dsimp (maxSteps := 10000000) only [List.getElem_toArray, List.getElem_cons_succ, List.getElem_cons_zero] | skip); (first | go_frame | simp (maxSteps := 10000000) only [Act.put, List.setIfInBounds_toArray, List.set_cons_succ, List.set_cons_zero] | skip)
  refine wpAnyK_done (by kernel_rfl) (by kernel_rfl) ?_ _
  (first | dsimp only [List.getElem_toArray, List.getElem_cons_succ, List.getElem_cons_zero] | dsimp (maxSteps := 10000000) only [List.getElem_toArray, List.getElem_cons_succ, List.getElem_cons_zero] | skip); (first | go_frame | simp (maxSteps := 10000000) only [Act.put, List.setIfInBounds_toArray, List.set_cons_succ, List.set_cons_zero] | skip)
  have HY8 := hid (HW7.out.y.setRow (cs' := (rpC ⟨id, 3, 0, [], EX, PX⟩ nilS (.slice a3 c c3) (.slice pa PX.length pc))))
  have HB8 := hid (HW7.out.be.setRow (g := w.heap.size + 1 + 1) (by omega) (rpC ⟨id, 3, 0, [], EX, PX⟩ nilS (.slice a3 c c3) (.slice pa PX.length pc)))
  have HP8 := hid (SlAt.setY (cs := rpC ⟨id, 3, 0, [], EX, PX⟩ nilS (.slice a3 c c3) (.slice pa PX.length pc)) HP7.out HW7.out.y)
  have HE8 := hid (show StrsAt _ (.slice a3 c c3) EX from HS3.out.below HB8.out (Nat.le_refl _))
  generalize x0.setRow (w.heap.size + 1 + 1) (rpC ⟨id, 3, 0, [], EX, PX⟩ nilS (.slice a3 c c3) (.slice pa PX.length pc)) = w8 at *
  go_wp2
  refine bodyPost_ret (results_cell_row rfl _ _ (w.heap.size + 1 + 1) 68 _ (0, 0) _ rfl HY8.out Tryd.underlying68 rfl Tryd.sizeRpS) rfl ?_
  exact ⟨_, _, _, [], rfl, ⟨SgsAt.nil _, rfl, HE8.out, HP8.out⟩, HB8.out⟩
set_option maxHeartbeats 8000000 in
theorem ranswer_include_no (S : Src) (ve vl vh vf : Value) (hd fd : List Sg) (id fr ct sz : Int) (w : World) (hX : SrcIn w S ve vl vh vf hd fd) (hs : SrcSmall S) (hc : sizeS S < sz ∨ fr < 0 ∨ sz ≤ fr) :
    Calls Tryd.prog 34 #[.agg (srcC ve vl vh vf), Rq.v ⟨id, 3, fr, ct, sz⟩] w fun e w' => AnsR w (ansRp S ⟨id, 3, fr, ct, sz⟩) e w' := by
  have hE : ansRp S ⟨id, 3, fr, ct, sz⟩ = failRp id 82 := by simp [ansRp, hc]
  rw [hE]
  clear hE
  have F := hid (fun w0 => fails_any id 82 w0)
  have SZ := hid (fun w' (hb : Below w.heap.size w w') => rsize_any S ve vl vh vf hd fd w' (hX.below hb) hs)
  generalize sizeS S = n at *
  clear hX hs
  go_enter Tryd.func34, Tryd.ntmps34
  go_upto_region 1 with fail
  refine wp_world (fun W => SrvW w W 63 (srcC ve vl vh vf) (Rq.cs ⟨id, 3, fr, ct, sz⟩)) (SrvW.new _ _ _ _) ?_
  intro w0 hW
  have HW0 := hid hW
  clear hW
  go_upto_region 2 with (first
    | ((with_reducible show wpList _ _ _ ({ dst := _, op := Op.load 63 _, type := _, pos := _, after := _, guard := _ } :: _) _ _); refine wpList_load_blk rfl 63 _ rfl w.heap.size rfl 63 (srcC ve vl vh vf) _ HW0.out.s Tryd.underlying63 rfl Tryd.sizeSrcR ?_)
    | (go_at_call 31; refine (SZ.out _ HW0.out.be).mono ?_; rintro e w3 ⟨rfl, hb3⟩))
  have HW := hid (HW0.out.later hb3)
  clear hb3 SZ HW0
  have r0 : w3.cell? ⟨w.heap.size + 1, 0, none⟩ = some (.int .i64 id) := Blk.cell HW.out.r 0
  have r1 : w3.cell? ⟨w.heap.size + 1, 1, none⟩ = some (.int .i64 3) := Blk.cell HW.out.r 1
  have r2 : w3.cell? ⟨w.heap.size + 1, 2, none⟩ = some (.int .i64 fr) := Blk.cell HW.out.r 2
  have r4 : w3.cell? ⟨w.heap.size + 1, 4, none⟩ = some (.int .i64 sz) := Blk.cell HW.out.r 4
  by_cases c1 : n < sz
  · have e1 : decide (n < sz) = true := by simpa using c1
    clear c1 hc
    go_wp2_with (first
      | (go_at_call 59; refine (F.out _).mono ?_; rintro e w9 ⟨rfl, hb9⟩)
      | ((with_reducible show wpList _ _ _ ({ dst := _, op := Op.store 68 _ _, type := _, pos := _, after := _, guard := _ } :: _) _ _); refine wpList_store_blk rfl 68 _ _ rfl (w.heap.size + 1 + 1) rfl (rpC (failRp id 82) nilS nilS nilS) rfl _ _ (HW.out.y.later hb9) rfl Tryd.sizeRpS (rpC_oneS _ _ _ _ rfl rfl rfl) ?_))
    refine bodyPost_ret (results_cell_row rfl _ _ (w.heap.size + 1 + 1) 68 _ (0, 0) _ rfl ((HW.out.y.later hb9).setRow) Tryd.underlying68 rfl Tryd.sizeRpS) rfl ?_
    exact ⟨_, _, _, [], rfl, failIn _ _ _, (bth HW.out.be hb9).setRow (by omega) _⟩
  · have e1 : decide (n < sz) = false := by simpa using c1
    by_cases c2 : fr < 0
    · have e2 : decide (fr < 0) = true := by simpa using c2
      clear c1 c2 hc
      go_wp2_with (first
        | (go_at_call 59; refine (F.out _).mono ?_; rintro e w9 ⟨rfl, hb9⟩)
        | ((with_reducible show wpList _ _ _ ({ dst := _, op := Op.store 68 _ _, type := _, pos := _, after := _, guard := _ } :: _) _ _); refine wpList_store_blk rfl 68 _ _ rfl (w.heap.size + 1 + 1) rfl (rpC (failRp id 82) nilS nilS nilS) rfl _ _ (HW.out.y.later hb9) rfl Tryd.sizeRpS (rpC_oneS _ _ _ _ rfl rfl rfl) ?_))
      refine bodyPost_ret (results_cell_row rfl _ _ (w.heap.size + 1 + 1) 68 _ (0, 0) _ rfl ((HW.out.y.later hb9).setRow) Tryd.underlying68 rfl Tryd.sizeRpS) rfl ?_
      exact ⟨_, _, _, [], rfl, failIn _ _ _, (bth HW.out.be hb9).setRow (by omega) _⟩
    · have e2 : decide (fr < 0) = false := by simpa using c2
      have e3 : decide (sz ≤ fr) = true := by simp; omega
      clear c1 c2 hc
      go_wp2_with (first
        | (go_at_call 59; refine (F.out _).mono ?_; rintro e w9 ⟨rfl, hb9⟩)
        | ((with_reducible show wpList _ _ _ ({ dst := _, op := Op.store 68 _ _, type := _, pos := _, after := _, guard := _ } :: _) _ _); refine wpList_store_blk rfl 68 _ _ rfl (w.heap.size + 1 + 1) rfl (rpC (failRp id 82) nilS nilS nilS) rfl _ _ (HW.out.y.later hb9) rfl Tryd.sizeRpS (rpC_oneS _ _ _ _ rfl rfl rfl) ?_))
      refine bodyPost_ret (results_cell_row rfl _ _ (w.heap.size + 1 + 1) 68 _ (0, 0) _ rfl ((HW.out.y.later hb9).setRow) Tryd.underlying68 rfl Tryd.sizeRpS) rfl ?_
      exact ⟨_, _, _, [], rfl, failIn _ _ _, (bth HW.out.be hb9).setRow (by omega) _⟩
set_option maxHeartbeats 8000000 in
theorem ranswer_include_ok (S : Src) (ve vl vh vf : Value) (hd fd : List Sg) (id fr ct sz : Int) (w : World) (hX : SrcIn w S ve vl vh vf hd fd) (hs : SrcSmall S) (hc : ¬ (sizeS S < sz ∨ fr < 0 ∨ sz ≤ fr)) :
    Calls Tryd.prog 34 #[.agg (srcC ve vl vh vf), Rq.v ⟨id, 3, fr, ct, sz⟩] w fun e w' => AnsR w (ansRp S ⟨id, 3, fr, ct, sz⟩) e w' := by
  have hE : ansRp S ⟨id, 3, fr, ct, sz⟩ = ⟨id, 4, 0, [], [], pathX (S.leaves.take sz.toNat) fr⟩ := by simp [ansRp, hc]
  rw [hE]
  clear hE
  have hsz := sizeS_in S
  have hl1 := hs.l1
  obtain ⟨la, lac, rfl, _⟩ := hX.leaves.formH
  have HX := hid hX; have HS := hid hs
  obtain ⟨f, rfl⟩ : ∃ f : Nat, fr = f := ⟨fr.toNat, by omega⟩
  obtain ⟨n, rfl⟩ : ∃ n : Nat, sz = n := ⟨sz.toNat, by omega⟩
  rw [Int.toNat_natCast]
  have hfn : f < n := by omega
  have hnl : n ≤ S.leaves.length := by omega
  have d3 : decide ((f : Int) < 0) = false := by simp
  have e1 : decide (sizeS S < (n : Int)) = false := by simp; omega
  have e3 : decide (n ≤ f) = false := by simp; omega
  obtain ⟨a2, c2, hr2, hS2⟩ := hX.leaves.takeR 22 29 Tryd.underlying22 Tryd.sizeHash (n : Int) n rfl (by rw [hcs_length]; omega)
  rw [hcs_take] at hS2
  have PP := hid (fun w' (hb : Below w.heap.size w w') => rpathNat S.leaves (.slice a2 n c2) f n w' (by omega) hnl hfn (hS2.below hb (Nat.le_refl _)))
  have SZ := hid (fun w' (hb : Below w.heap.size w w') => rsize_any S ve (.slice la S.leaves.length lac) vh vf hd fd w' (HX.out.below hb) HS.out)
  generalize pathX (S.leaves.take n) (f : Int) = PX at *
  generalize sizeS S = N at *
  have hn80 : n ≤ 80 := by omega
  clear hX hs hS2 hc
  go_enter Tryd.func34, Tryd.ntmps34
  go_upto_region 1 with fail
  refine wp_world (fun W => SrvW w W 63 (srcC ve (.slice la S.leaves.length lac) vh vf) (Rq.cs ⟨id, 3, f, ct, n⟩)) (SrvW.new _ _ _ _) ?_
  intro w0 hW
  have HW0 := hid hW
  clear hW
  go_upto_region 2 with (first
    | ((with_reducible show wpList _ _ _ ({ dst := _, op := Op.load 63 _, type := _, pos := _, after := _, guard := _ } :: _) _ _); refine wpList_load_blk rfl 63 _ rfl w.heap.size rfl 63 (srcC ve (.slice la S.leaves.length lac) vh vf) _ HW0.out.s Tryd.underlying63 rfl Tryd.sizeSrcR ?_)
    | (go_at_call 31; refine (SZ.out _ HW0.out.be).mono ?_; rintro e w3 ⟨rfl, hb3⟩))
  have HW := hid (HW0.out.later hb3)
  clear hb3 SZ HW0
  have r1 : w3.cell? ⟨w.heap.size + 1, 1, none⟩ = some (.int .i64 3) := Blk.cell HW.out.r 1
  have r2 : w3.cell? ⟨w.heap.size + 1, 2, none⟩ = some (.int .i64 (f : Int)) := Blk.cell HW.out.r 2
  have r4 : w3.cell? ⟨w.heap.size + 1, 4, none⟩ = some (.int .i64 (n : Int)) := Blk.cell HW.out.r 4
  go_upto_region 19 with fail
  clear r1 r2 r4
  refine wp_region_anyC (by kernel_rfl) ?_
  intro x0 he0 hbx0
  have Hc0 := hid hbx0
  clear hbx0 he0
  show wpAnyC _ _ _ _ _ 13 (Array.replicate 13 false) _ _
  refine wpAnyC_take (i := 0) (v := .pointer (some ⟨w.heap.size, 1, none⟩)) rfl (by kernel_rfl) (by kernel_rfl) (by kernel_rfl) (fun _ _ _ h => h) (Or.inl ⟨by kernel_rfl, ?_⟩) ?_
  · intro w _
    go_simp
    try exact IntWalk.i64_in _ (by omega)
    try omega
  (first | dsimp only [List.getElem_toArray, List.getElem_cons_succ, List.getElem_cons_zero] | dsimp (maxSteps := 10000000) only [List.getElem_toArray, List.getElem_cons_succ, List.getElem_cons_zero] | skip); (first | go_frame | simp (maxSteps := 10000000) only [Act.put, List.setIfInBounds_toArray, List.set_cons_succ, List.set_cons_zero] | skip)
  refine wpAnyC_take (i := 1) (v := .slice la S.leaves.length lac) rfl (by kernel_rfl) (by kernel_rfl) (by kernel_rfl) (fun _ _ _ h => h) (YieldsW.load_one (by kernel_rfl) 22 _ rfl ⟨w.heap.size, 1, none⟩ (by kernel_rfl) (.slice la S.leaves.length lac) _ (fun _ hw => Blk.cell (HW.out.later hw).s 1) Tryd.underlying22 rfl) ?_
  (first | dsimp only [List.getElem_toArray, List.getElem_cons_succ, List.getElem_cons_zero] | dsimp (maxSteps := 10000000) only [List.getElem_toArray, List.getElem_cons_succ, List.getElem_cons_zero] | skip); (first | go_frame | simp (maxSteps := 10000000) only [Act.put, List.setIfInBounds_toArray, List.set_cons_succ, List.set_cons_zero] | skip)
  refine wpAnyC_take (i := 2) (v := .pointer (some ⟨w.heap.size + 1, 4, none⟩)) rfl (by kernel_rfl) (by kernel_rfl) (by kernel_rfl) (fun _ _ _ h => h) (Or.inl ⟨by kernel_rfl, ?_⟩) ?_
  · intro w _
    go_simp
    try exact IntWalk.i64_in _ (by omega)
    try omega
  (first | dsimp only [List.getElem_toArray, List.getElem_cons_succ, List.getElem_cons_zero] | dsimp (maxSteps := 10000000) only [List.getElem_toArray, List.getElem_cons_succ, List.getElem_cons_zero] | skip); (first | go_frame | simp (maxSteps := 10000000) only [Act.put, List.setIfInBounds_toArray, List.set_cons_succ, List.set_cons_zero] | skip)
  refine wpAnyC_take (i := 3) (v := .int .i64 (n : Int)) rfl (by kernel_rfl) (by kernel_rfl) (by kernel_rfl) (fun _ _ _ h => h) (YieldsW.load_one (by kernel_rfl) 3 _ rfl ⟨w.heap.size + 1, 4, none⟩ (by kernel_rfl) (.int .i64 (n : Int)) _ (fun _ hw => Blk.cell (HW.out.later hw).r 4) Tryd.underlying3 rfl) ?_
  (first | dsimp only [List.getElem_toArray, List.getElem_cons_succ, List.getElem_cons_zero] | dsimp (maxSteps := 10000000) only [List.getElem_toArray, List.getElem_cons_succ, List.getElem_cons_zero] | skip); (first | go_frame | simp (maxSteps := 10000000) only [Act.put, List.setIfInBounds_toArray, List.set_cons_succ, List.set_cons_zero] | skip)
  refine wpAnyC_take (i := 4) (v := .slice a2 n c2) rfl (by kernel_rfl) (by kernel_rfl) (by kernel_rfl) (fun _ _ _ h => h) (Or.inl ⟨by kernel_rfl, ?_⟩) ?_
  · intro w _
    go_simp
    try exact IntWalk.i64_in _ (by omega)
    try omega
  (first | dsimp only [List.getElem_toArray, List.getElem_cons_succ, List.getElem_cons_zero] | dsimp (maxSteps := 10000000) only [List.getElem_toArray, List.getElem_cons_succ, List.getElem_cons_zero] | skip); (first | go_frame | simp (maxSteps := 10000000) only [Act.put, List.setIfInBounds_toArray, List.set_cons_succ, List.set_cons_zero] | skip)
  refine wpAnyC_take (i := 5) (v := .pointer (some ⟨w.heap.size + 1, 2, none⟩)) rfl (by kernel_rfl) (by kernel_rfl) (by kernel_rfl) (fun _ _ _ h => h) (Or.inl ⟨by kernel_rfl, ?_⟩) ?_
  · intro w _
    go_simp
    try exact IntWalk.i64_in _ (by omega)
    try omega
  (first | dsimp only [List.getElem_toArray, List.getElem_cons_succ, List.getElem_cons_zero] | dsimp (maxSteps := 10000000) only [List.getElem_toArray, List.getElem_cons_succ, List.getElem_cons_zero] | skip); (first | go_frame | simp (maxSteps := 10000000) only [Act.put, List.setIfInBounds_toArray, List.set_cons_succ, List.set_cons_zero] | skip)
  refine wpAnyC_take (i := 6) (v := .int .i64 (f : Int)) rfl (by kernel_rfl) (by kernel_rfl) (by kernel_rfl) (fun _ _ _ h => h) (YieldsW.load_one (by kernel_rfl) 3 _ rfl ⟨w.heap.size + 1, 2, none⟩ (by kernel_rfl) (.int .i64 (f : Int)) _ (fun _ hw => Blk.cell (HW.out.later hw).r 2) Tryd.underlying3 rfl) ?_
  (first | dsimp only [List.getElem_toArray, List.getElem_cons_succ, List.getElem_cons_zero] | dsimp (maxSteps := 10000000) only [List.getElem_toArray, List.getElem_cons_succ, List.getElem_cons_zero] | skip); (first | go_frame | simp (maxSteps := 10000000) only [Act.put, List.setIfInBounds_toArray, List.set_cons_succ, List.set_cons_zero] | skip)
  refine wpAnyC_forced (i := 7) (by kernel_rfl) rfl (Hc0.out) ?_
  (first | dsimp only [List.getElem_toArray, List.getElem_cons_succ, List.getElem_cons_zero] | dsimp (maxSteps := 10000000) only [List.getElem_toArray, List.getElem_cons_succ, List.getElem_cons_zero] | skip); (first | go_frame | simp (maxSteps := 10000000) only [Act.put, List.setIfInBounds_toArray, List.set_cons_succ, List.set_cons_zero] | skip)
  go_wp2_with (go_at_call 46; refine (PP.out _ (bth HW.out.be Hc0.out)).mono ?_; rintro e w5 ⟨⟨p5, rfl, hp5⟩, hb5⟩)
  show wpAnyC _ _ _ _ _ _ _ _ _
  (first | dsimp only [List.getElem_toArray, List.getElem_cons_succ, List.getElem_cons_zero] | dsimp (maxSteps := 10000000) only [List.getElem_toArray, List.getElem_cons_succ, List.getElem_cons_zero] | skip); (first | go_frame | simp (maxSteps := 10000000) only [Act.put, List.setIfInBounds_toArray, List.set_cons_succ, List.set_cons_zero] | skip)
  have Hc5 := hid (bth Hc0.out hb5)
  have HW7 := hid (HW.out.later Hc5.out)
  clear hb5 Hc0
  obtain ⟨pa, pc, rfl, _⟩ := hp5.formH
  refine wpAnyC_take (i := 8) (v := .tuple #[.slice pa PX.length pc, .int .i64 0]) rfl (by kernel_rfl) (by kernel_rfl) (by kernel_rfl) (fun _ _ _ h => h) (Or.inl ⟨by kernel_rfl, ?_⟩) ?_
  · intro w _
    go_simp
    try exact IntWalk.i64_in _ (by omega)
    try omega
  (first | dsimp only [List.getElem_toArray, List.getElem_cons_succ, List.getElem_cons_zero] | dsimp (maxSteps := 10000000) only [List.getElem_toArray, List.getElem_cons_succ, List.getElem_cons_zero] | skip); (first | go_frame | simp (maxSteps := 10000000) only [Act.put, List.setIfInBounds_toArray, List.set_cons_succ, List.set_cons_zero] | skip)
  refine wpAnyC_take (i := 9) (v := .slice pa PX.length pc) rfl (by kernel_rfl) (by kernel_rfl) (by kernel_rfl) (fun _ _ _ h => h) (Or.inl ⟨by kernel_rfl, ?_⟩) ?_
  · intro w _
    go_simp
    try exact IntWalk.i64_in _ (by omega)
    try omega
  (first | dsimp only [List.getElem_toArray, List.getElem_cons_succ, List.getElem_cons_zero] | dsimp (maxSteps := 10000000) only [List.getElem_toArray, List.getElem_cons_succ, List.getElem_cons_zero] | skip); (first | go_frame | simp (maxSteps := 10000000) only [Act.put, List.setIfInBounds_toArray, List.set_cons_succ, List.set_cons_zero] | skip)
  refine wpAnyC_take (i := 10) (v := .int .i64 0) rfl (by kernel_rfl) (by kernel_rfl) (by kernel_rfl) (fun _ _ _ h => h) (Or.inl ⟨by kernel_rfl, ?_⟩) ?_
  · intro w _
    go_simp
    try exact IntWalk.i64_in _ (by omega)
    try omega
  (first | dsimp only [List.getElem_toArray, List.getElem_cons_succ, List.getElem_cons_zero] | dsimp (maxSteps := 10000000) only [List.getElem_toArray, List.getElem_cons_succ, List.getElem_cons_zero] | skip); (first | go_frame | simp (maxSteps := 10000000) only [Act.put, List.setIfInBounds_toArray, List.set_cons_succ, List.set_cons_zero] | skip)
  refine wpAnyC_take (i := 11) (v := .slice pa PX.length pc) rfl (by kernel_rfl) (by kernel_rfl) (by kernel_rfl) (fun _ _ _ h => h) (Or.inl ⟨by kernel_rfl, ?_⟩) ?_
  · intro w _
    go_simp
    try exact IntWalk.i64_in _ (by omega)
    try omega
  (first | dsimp only [List.getElem_toArray, List.getElem_cons_succ, List.getElem_cons_zero] | dsimp (maxSteps := 10000000) only [List.getElem_toArray, List.getElem_cons_succ, List.getElem_cons_zero] | skip); (first | go_frame | simp (maxSteps := 10000000) only [Act.put, List.setIfInBounds_toArray, List.set_cons_succ, List.set_cons_zero] | skip)
  refine wpAnyC_take (i := 12) (v := .int .i64 0) rfl (by kernel_rfl) (by kernel_rfl) (by kernel_rfl) (fun _ _ _ h => h) (Or.inl ⟨by kernel_rfl, ?_⟩) ?_
  · intro w _
    go_simp
    try exact IntWalk.i64_in _ (by omega)
    try omega
  (first | dsimp only [List.getElem_toArray, List.getElem_cons_succ, List.getElem_cons_zero] | dsimp (maxSteps := 10000000) only [List.getElem_toArray, List.getElem_cons_succ, List.getElem_cons_zero] | skip); (first | go_frame | simp (maxSteps := 10000000) only [Act.put, List.setIfInBounds_toArray, List.set_cons_succ, List.set_cons_zero] | skip)
  refine wpAnyC_done (by kernel_rfl) Hc5.out ?_ _
  (first | dsimp only [List.getElem_toArray, List.getElem_cons_succ, List.getElem_cons_zero] | dsimp (maxSteps := 10000000) only [List.getElem_toArray, List.getElem_cons_succ, List.getElem_cons_zero] | skip); (first | go_frame | simp (maxSteps := 10000000) only [Act.put, List.setIfInBounds_toArray, List.set_cons_succ, List.set_cons_zero] | skip)
  have HP7 := hid hp5
  have r0 : w5.cell? ⟨w.heap.size + 1, 0, none⟩ = some (.int .i64 id) := Blk.cell HW7.out.r 0
  clear hp5 PP
  go_wp2_with (first
    | ((with_reducible show wpList _ _ _ ({ dst := _, op := Op.build 68 _, type := _, pos := _, after := _, guard := _ } :: _) _ _); refine wpList_buildP rfl 68 [(0, .tmp 150), (1, .const (.int .i64 4)), (5, .tmp 151)] rfl (.agg (rpC ⟨id, 4, 0, [], [], PX⟩ nilS nilS (.slice pa PX.length pc))) (fun w => by kernel_rfl) ?_)
    | ((with_reducible show wpList _ _ _ ({ dst := _, op := Op.store 68 _ _, type := _, pos := _, after := _, guard := _ } :: _) _ _); refine wpList_store_blk rfl 68 _ _ rfl (w.heap.size + 1 + 1) rfl (rpC ⟨id, 4, 0, [], [], PX⟩ nilS nilS (.slice pa PX.length pc)) rfl _ _ HW7.out.y rfl Tryd.sizeRpS (rpC_oneS _ _ _ _ rfl rfl rfl) ?_))
  have HY8 := hid (HW7.out.y.setRow (cs' := (rpC ⟨id, 4, 0, [], [], PX⟩ nilS nilS (.slice pa PX.length pc))))
  have HB8 := hid (HW7.out.be.setRow (g := w.heap.size + 1 + 1) (by omega) (rpC ⟨id, 4, 0, [], [], PX⟩ nilS nilS (.slice pa PX.length pc)))
  have HP8 := hid (SlAt.setY (cs := rpC ⟨id, 4, 0, [], [], PX⟩ nilS nilS (.slice pa PX.length pc)) HP7.out HW7.out.y)
  refine bodyPost_ret (results_cell_row rfl _ _ (w.heap.size + 1 + 1) 68 _ (0, 0) _ rfl HY8.out Tryd.underlying68 rfl Tryd.sizeRpS) rfl ?_
  exact ⟨_, _, _, [], rfl, ⟨SgsAt.nil _, rfl, strsNil _, HP8.out⟩, HB8.out⟩
set_option maxHeartbeats 8000000 in
theorem ranswer_consist_no (S : Src) (ve vl vh vf : Value) (hd fd : List Sg) (id fr ct sz : Int) (w : World) (hX : SrcIn w S ve vl vh vf hd fd) (hs : SrcSmall S) (hc : sizeS S < sz ∨ fr < 0 ∨ sz < fr) :
    Calls Tryd.prog 34 #[.agg (srcC ve vl vh vf), Rq.v ⟨id, 4, fr, ct, sz⟩] w fun e w' => AnsR w (ansRp S ⟨id, 4, fr, ct, sz⟩) e w' := by
  have hE : ansRp S ⟨id, 4, fr, ct, sz⟩ = failRp id 82 := by simp [ansRp, hc]
  rw [hE]
  clear hE
  have F := hid (fun w0 => fails_any id 82 w0)
  have SZ := hid (fun w' (hb : Below w.heap.size w w') => rsize_any S ve vl vh vf hd fd w' (hX.below hb) hs)
  generalize sizeS S = n at *
  clear hX hs
  go_enter Tryd.func34, Tryd.ntmps34
  go_upto_region 1 with fail
  refine wp_world (fun W => SrvW w W 63 (srcC ve vl vh vf) (Rq.cs ⟨id, 4, fr, ct, sz⟩)) (SrvW.new _ _ _ _) ?_
  intro w0 hW
  have HW0 := hid hW
  clear hW
  go_upto_region 2 with (first
    | ((with_reducible show wpList _ _ _ ({ dst := _, op := Op.load 63 _, type := _, pos := _, after := _, guard := _ } :: _) _ _); refine wpList_load_blk rfl 63 _ rfl w.heap.size rfl 63 (srcC ve vl vh vf) _ HW0.out.s Tryd.underlying63 rfl Tryd.sizeSrcR ?_)
    | (go_at_call 31; refine (SZ.out _ HW0.out.be).mono ?_; rintro e w3 ⟨rfl, hb3⟩))
  have HW := hid (HW0.out.later hb3)
  clear hb3 SZ HW0
  have r0 : w3.cell? ⟨w.heap.size + 1, 0, none⟩ = some (.int .i64 id) := Blk.cell HW.out.r 0
  have r1 : w3.cell? ⟨w.heap.size + 1, 1, none⟩ = some (.int .i64 4) := Blk.cell HW.out.r 1
  have r2 : w3.cell? ⟨w.heap.size + 1, 2, none⟩ = some (.int .i64 fr) := Blk.cell HW.out.r 2
  have r4 : w3.cell? ⟨w.heap.size + 1, 4, none⟩ = some (.int .i64 sz) := Blk.cell HW.out.r 4
  by_cases c1 : n < sz
  · have e1 : decide (n < sz) = true := by simpa using c1
    clear c1 hc
    go_wp2_with (first
      | (go_at_call 59; refine (F.out _).mono ?_; rintro e w9 ⟨rfl, hb9⟩)
      | ((with_reducible show wpList _ _ _ ({ dst := _, op := Op.store 68 _ _, type := _, pos := _, after := _, guard := _ } :: _) _ _); refine wpList_store_blk rfl 68 _ _ rfl (w.heap.size + 1 + 1) rfl (rpC (failRp id 82) nilS nilS nilS) rfl _ _ (HW.out.y.later hb9) rfl Tryd.sizeRpS (rpC_oneS _ _ _ _ rfl rfl rfl) ?_))
    refine bodyPost_ret (results_cell_row rfl _ _ (w.heap.size + 1 + 1) 68 _ (0, 0) _ rfl ((HW.out.y.later hb9).setRow) Tryd.underlying68 rfl Tryd.sizeRpS) rfl ?_
    exact ⟨_, _, _, [], rfl, failIn _ _ _, (bth HW.out.be hb9).setRow (by omega) _⟩
  · have e1 : decide (n < sz) = false := by simpa using c1
    by_cases c2 : fr < 0
    · have e2 : decide (fr < 0) = true := by simpa using c2
      clear c1 c2 hc
      go_wp2_with (first
        | (go_at_call 59; refine (F.out _).mono ?_; rintro e w9 ⟨rfl, hb9⟩)
        | ((with_reducible show wpList _ _ _ ({ dst := _, op := Op.store 68 _ _, type := _, pos := _, after := _, guard := _ } :: _) _ _); refine wpList_store_blk rfl 68 _ _ rfl (w.heap.size + 1 + 1) rfl (rpC (failRp id 82) nilS nilS nilS) rfl _ _ (HW.out.y.later hb9) rfl Tryd.sizeRpS (rpC_oneS _ _ _ _ rfl rfl rfl) ?_))
      refine bodyPost_ret (results_cell_row rfl _ _ (w.heap.size + 1 + 1) 68 _ (0, 0) _ rfl ((HW.out.y.later hb9).setRow) Tryd.underlying68 rfl Tryd.sizeRpS) rfl ?_
      exact ⟨_, _, _, [], rfl, failIn _ _ _, (bth HW.out.be hb9).setRow (by omega) _⟩
    · have e2 : decide (fr < 0) = false := by simpa using c2
      have e3 : decide (sz < fr) = true := by simp; omega
      clear c1 c2 hc
      go_wp2_with (first
        | (go_at_call 59; refine (F.out _).mono ?_; rintro e w9 ⟨rfl, hb9⟩)
        | ((with_reducible show wpList _ _ _ ({ dst := _, op := Op.store 68 _ _, type := _, pos := _, after := _, guard := _ } :: _) _ _); refine wpList_store_blk rfl 68 _ _ rfl (w.heap.size + 1 + 1) rfl (rpC (failRp id 82) nilS nilS nilS) rfl _ _ (HW.out.y.later hb9) rfl Tryd.sizeRpS (rpC_oneS _ _ _ _ rfl rfl rfl) ?_))
      refine bodyPost_ret (results_cell_row rfl _ _ (w.heap.size + 1 + 1) 68 _ (0, 0) _ rfl ((HW.out.y.later hb9).setRow) Tryd.underlying68 rfl Tryd.sizeRpS) rfl ?_
      exact ⟨_, _, _, [], rfl, failIn _ _ _, (bth HW.out.be hb9).setRow (by omega) _⟩
set_option maxHeartbeats 8000000 in
theorem ranswer_consist_ok (S : Src) (ve vl vh vf : Value) (hd fd : List Sg) (id fr ct sz : Int) (w : World) (hX : SrcIn w S ve vl vh vf hd fd) (hs : SrcSmall S) (hc : ¬ (sizeS S < sz ∨ fr < 0 ∨ sz < fr)) :
    Calls Tryd.prog 34 #[.agg (srcC ve vl vh vf), Rq.v ⟨id, 4, fr, ct, sz⟩] w fun e w' => AnsR w (ansRp S ⟨id, 4, fr, ct, sz⟩) e w' := by
  have hE : ansRp S ⟨id, 4, fr, ct, sz⟩ = ⟨id, 4, 0, [], [], rprX (S.leaves.take sz.toNat) fr⟩ := by simp [ansRp, hc]
  rw [hE]
  clear hE
  have hsz := sizeS_in S
  have hl1 := hs.l1
  obtain ⟨la, lac, rfl, _⟩ := hX.leaves.formH
  have HX := hid hX; have HS := hid hs
  obtain ⟨f, rfl⟩ : ∃ f : Nat, fr = f := ⟨fr.toNat, by omega⟩
  obtain ⟨n, rfl⟩ : ∃ n : Nat, sz = n := ⟨sz.toNat, by omega⟩
  rw [Int.toNat_natCast]
  have hfn : f ≤ n := by omega
  have hnl : n ≤ S.leaves.length := by omega
  have d3 : decide ((f : Int) < 0) = false := by simp
  have e1 : decide (sizeS S < (n : Int)) = false := by simp; omega
  have e3 : decide (n < f) = false := by simp; omega
  obtain ⟨a2, c2, hr2, hS2⟩ := hX.leaves.takeR 22 29 Tryd.underlying22 Tryd.sizeHash (n : Int) n rfl (by rw [hcs_length]; omega)
  rw [hcs_take] at hS2
  have PP := hid (fun w' (hb : Below w.heap.size w w') => rproofNat S.leaves (.slice a2 n c2) f n w' (by omega) hnl hfn (hS2.below hb (Nat.le_refl _)))
  have SZ := hid (fun w' (hb : Below w.heap.size w w') => rsize_any S ve (.slice la S.leaves.length lac) vh vf hd fd w' (HX.out.below hb) HS.out)
  generalize rprX (S.leaves.take n) (f : Int) = PX at *
  generalize sizeS S = N at *
  have hn80 : n ≤ 80 := by omega
  clear hX hs hS2 hc
  go_enter Tryd.func34, Tryd.ntmps34
  go_upto_region 1 with fail
  refine wp_world (fun W => SrvW w W 63 (srcC ve (.slice la S.leaves.length lac) vh vf) (Rq.cs ⟨id, 4, f, ct, n⟩)) (SrvW.new _ _ _ _) ?_
  intro w0 hW
  have HW0 := hid hW
  clear hW
  go_upto_region 2 with (first
    | ((with_reducible show wpList _ _ _ ({ dst := _, op := Op.load 63 _, type := _, pos := _, after := _, guard := _ } :: _) _ _); refine wpList_load_blk rfl 63 _ rfl w.heap.size rfl 63 (srcC ve (.slice la S.leaves.length lac) vh vf) _ HW0.out.s Tryd.underlying63 rfl Tryd.sizeSrcR ?_)
    | (go_at_call 31; refine (SZ.out _ HW0.out.be).mono ?_; rintro e w3 ⟨rfl, hb3⟩))
  have HW := hid (HW0.out.later hb3)
  clear hb3 SZ HW0
  have r1 : w3.cell? ⟨w.heap.size + 1, 1, none⟩ = some (.int .i64 4) := Blk.cell HW.out.r 1
  have r2 : w3.cell? ⟨w.heap.size + 1, 2, none⟩ = some (.int .i64 (f : Int)) := Blk.cell HW.out.r 2
  have r4 : w3.cell? ⟨w.heap.size + 1, 4, none⟩ = some (.int .i64 (n : Int)) := Blk.cell HW.out.r 4
  go_upto_region 26 with fail
  clear r1 r2 r4
  refine wp_region_anyC (by kernel_rfl) ?_
  intro x0 he0 hbx0
  have Hc0 := hid hbx0
  clear hbx0 he0
  show wpAnyC _ _ _ _ _ 13 (Array.replicate 13 false) _ _
  refine wpAnyC_take (i := 0) (v := .pointer (some ⟨w.heap.size, 1, none⟩)) rfl (by kernel_rfl) (by kernel_rfl) (by kernel_rfl) (fun _ _ _ h => h) (Or.inl ⟨by kernel_rfl, ?_⟩) ?_
  · intro w _
    go_simp
    try exact IntWalk.i64_in _ (by omega)
    try omega
  (first | dsimp only [List.getElem_toArray, List.getElem_cons_succ, List.getElem_cons_zero] | dsimp (maxSteps := 10000000) only [List.getElem_toArray, List.getElem_cons_succ, List.getElem_cons_zero] | skip); (first | go_frame | simp (maxSteps := 10000000) only [Act.put, List.setIfInBounds_toArray, List.set_cons_succ, List.set_cons_zero] | skip)
  refine wpAnyC_take (i := 1) (v := .slice la S.leaves.length lac) rfl (by kernel_rfl) (by kernel_rfl) (by kernel_rfl) (fun _ _ _ h => h) (YieldsW.load_one (by kernel_rfl) 22 _ rfl ⟨w.heap.size, 1, none⟩ (by kernel_rfl) (.slice la S.leaves.length lac) _ (fun _ hw => Blk.cell (HW.out.later hw).s 1) Tryd.underlying22 rfl) ?_
  (first | dsimp only [List.getElem_toArray, List.getElem_cons_succ, List.getElem_cons_zero] | dsimp (maxSteps := 10000000) only [List.getElem_toArray, List.getElem_cons_succ, List.getElem_cons_zero] | skip); (first | go_frame | simp (maxSteps := 10000000) only [Act.put, List.setIfInBounds_toArray, List.set_cons_succ, List.set_cons_zero] | skip)
  refine wpAnyC_take (i := 2) (v := .pointer (some ⟨w.heap.size + 1, 4, none⟩)) rfl (by kernel_rfl) (by kernel_rfl) (by kernel_rfl) (fun _ _ _ h => h) (Or.inl ⟨by kernel_rfl, ?_⟩) ?_
  · intro w _
    go_simp
    try exact IntWalk.i64_in _ (by omega)
    try omega
  (first | dsimp only [List.getElem_toArray, List.getElem_cons_succ, List.getElem_cons_zero] | dsimp (maxSteps := 10000000) only [List.getElem_toArray, List.getElem_cons_succ, List.getElem_cons_zero] | skip); (first | go_frame | simp (maxSteps := 10000000) only [Act.put, List.setIfInBounds_toArray, List.set_cons_succ, List.set_cons_zero] | skip)
  refine wpAnyC_take (i := 3) (v := .int .i64 (n : Int)) rfl (by kernel_rfl) (by kernel_rfl) (by kernel_rfl) (fun _ _ _ h => h) (YieldsW.load_one (by kernel_rfl) 3 _ rfl ⟨w.heap.size + 1, 4, none⟩ (by kernel_rfl) (.int .i64 (n : Int)) _ (fun _ hw => Blk.cell (HW.out.later hw).r 4) Tryd.underlying3 rfl) ?_
  (first | dsimp only [List.getElem_toArray, List.getElem_cons_succ, List.getElem_cons_zero] | dsimp (maxSteps := 10000000) only [List.getElem_toArray, List.getElem_cons_succ, List.getElem_cons_zero] | skip); (first | go_frame | simp (maxSteps := 10000000) only [Act.put, List.setIfInBounds_toArray, List.set_cons_succ, List.set_cons_zero] | skip)
  refine wpAnyC_take (i := 4) (v := .slice a2 n c2) rfl (by kernel_rfl) (by kernel_rfl) (by kernel_rfl) (fun _ _ _ h => h) (Or.inl ⟨by kernel_rfl, ?_⟩) ?_
  · intro w _
    go_simp
    try exact IntWalk.i64_in _ (by omega)
    try omega
  (first | dsimp only [List.getElem_toArray, List.getElem_cons_succ, List.getElem_cons_zero] | dsimp (maxSteps := 10000000) only [List.getElem_toArray, List.getElem_cons_succ, List.getElem_cons_zero] | skip); (first | go_frame | simp (maxSteps := 10000000) only [Act.put, List.setIfInBounds_toArray, List.set_cons_succ, List.set_cons_zero] | skip)
  refine wpAnyC_take (i := 5) (v := .pointer (some ⟨w.heap.size + 1, 2, none⟩)) rfl (by kernel_rfl) (by kernel_rfl) (by kernel_rfl) (fun _ _ _ h => h) (Or.inl ⟨by kernel_rfl, ?_⟩) ?_
  · intro w _
    go_simp
    try exact IntWalk.i64_in _ (by omega)
    try omega
  (first | dsimp only [List.getElem_toArray, List.getElem_cons_succ, List.getElem_cons_zero] | dsimp (maxSteps := 10000000) only [List.getElem_toArray, List.getElem_cons_succ, List.getElem_cons_zero] | skip); (first | go_frame | simp (maxSteps := 10000000) only [Act.put, List.setIfInBounds_toArray, List.set_cons_succ, List.set_cons_zero] | skip)
  refine wpAnyC_take (i := 6) (v := .int .i64 (f : Int)) rfl (by kernel_rfl) (by kernel_rfl) (by kernel_rfl) (fun _ _ _ h => h) (YieldsW.load_one (by kernel_rfl) 3 _ rfl ⟨w.heap.size + 1, 2, none⟩ (by kernel_rfl) (.int .i64 (f : Int)) _ (fun _ hw => Blk.cell (HW.out.later hw).r 2) Tryd.underlying3 rfl) ?_
  (first | dsimp only [List.getElem_toArray, List.getElem_cons_succ, List.getElem_cons_zero] | dsimp (maxSteps := 10000000) only [List.getElem_toArray, List.getElem_cons_succ, List.getElem_cons_zero] | skip); (first | go_frame | simp (maxSteps := 10000000) only [Act.put, List.setIfInBounds_toArray, List.set_cons_succ, List.set_cons_zero] | skip)
  refine wpAnyC_forced (i := 7) (by kernel_rfl) rfl (Hc0.out) ?_
  (first | dsimp only [List.getElem_toArray, List.getElem_cons_succ, List.getElem_cons_zero] | dsimp (maxSteps := 10000000) only [List.getElem_toArray, List.getElem_cons_succ, List.getElem_cons_zero] | skip); (first | go_frame | simp (maxSteps := 10000000) only [Act.put, List.setIfInBounds_toArray, List.set_cons_succ, List.set_cons_zero] | skip)
  go_wp2_with (go_at_call 47; refine (PP.out _ (bth HW.out.be Hc0.out)).mono ?_; rintro e w5 ⟨⟨p5, rfl, hp5⟩, hb5⟩)
  show wpAnyC _ _ _ _ _ _ _ _ _
  (first | dsimp only [List.getElem_toArray, List.getElem_cons_succ, List.getElem_cons_zero] | dsimp (maxSteps := 10000000) only [List.getElem_toArray, List.getElem_cons_succ, List.getElem_cons_zero] | skip); (first | go_frame | simp (maxSteps := 10000000) only [Act.put, List.setIfInBounds_toArray, List.set_cons_succ, List.set_cons_zero] | skip)
  have Hc5 := hid (bth Hc0.out hb5)
  have HW7 := hid (HW.out.later Hc5.out)
  clear hb5 Hc0
  obtain ⟨pa, pc, rfl, _⟩ := hp5.formH
  refine wpAnyC_take (i := 8) (v := .tuple #[.slice pa PX.length pc, .int .i64 0]) rfl (by kernel_rfl) (by kernel_rfl) (by kernel_rfl) (fun _ _ _ h => h) (Or.inl ⟨by kernel_rfl, ?_⟩) ?_
  · intro w _
    go_simp
    try exact IntWalk.i64_in _ (by omega)
    try omega
  (first | dsimp only [List.getElem_toArray, List.getElem_cons_succ, List.getElem_cons_zero] | dsimp (maxSteps := 10000000) only [List.getElem_toArray, List.getElem_cons_succ, List.getElem_cons_zero] | skip); (first | go_frame | simp (maxSteps := 10000000) only [Act.put, List.setIfInBounds_toArray, List.set_cons_succ, List.set_cons_zero] | skip)
  refine wpAnyC_take (i := 9) (v := .slice pa PX.length pc) rfl (by kernel_rfl) (by kernel_rfl) (by kernel_rfl) (fun _ _ _ h => h) (Or.inl ⟨by kernel_rfl, ?_⟩) ?_
  · intro w _
    go_simp
    try exact IntWalk.i64_in _ (by omega)
    try omega
  (first | dsimp only [List.getElem_toArray, List.getElem_cons_succ, List.getElem_cons_zero] | dsimp (maxSteps := 10000000) only [List.getElem_toArray, List.getElem_cons_succ, List.getElem_cons_zero] | skip); (first | go_frame | simp (maxSteps := 10000000) only [Act.put, List.setIfInBounds_toArray, List.set_cons_succ, List.set_cons_zero] | skip)
  refine wpAnyC_take (i := 10) (v := .int .i64 0) rfl (by kernel_rfl) (by kernel_rfl) (by kernel_rfl) (fun _ _ _ h => h) (Or.inl ⟨by kernel_rfl, ?_⟩) ?_
  · intro w _
    go_simp
    try exact IntWalk.i64_in _ (by omega)
    try omega
  (first | dsimp only [List.getElem_toArray, List.getElem_cons_succ, List.getElem_cons_zero] | dsimp (maxSteps := 10000000) only [List.getElem_toArray, List.getElem_cons_succ, List.getElem_cons_zero] | skip); (first | go_frame | simp (maxSteps := 10000000) only [Act.put, List.setIfInBounds_toArray, List.set_cons_succ, List.set_cons_zero] | skip)
  refine wpAnyC_take (i := 11) (v := .slice pa PX.length pc) rfl (by kernel_rfl) (by kernel_rfl) (by kernel_rfl) (fun _ _ _ h => h) (Or.inl ⟨by kernel_rfl, ?_⟩) ?_
  · intro w _
    go_simp
    try exact IntWalk.i64_in _ (by omega)
    try omega
  (first | dsimp only [List.getElem_toArray, List.getElem_cons_succ, List.getElem_cons_zero] | dsimp (maxSteps := 10000000) only [List.getElem_toArray, List.getElem_cons_succ, List.getElem_cons_zero] | skip); (first | go_frame | simp (maxSteps := 10000000) only [Act.put, List.setIfInBounds_toArray, List.set_cons_succ, List.set_cons_zero] | skip)
  refine wpAnyC_take (i := 12) (v := .int .i64 0) rfl (by kernel_rfl) (by kernel_rfl) (by kernel_rfl) (fun _ _ _ h => h) (Or.inl ⟨by kernel_rfl, ?_⟩) ?_
  · intro w _
    go_simp
    try exact IntWalk.i64_in _ (by omega)
    try omega
  (first | dsimp only [List.getElem_toArray, List.getElem_cons_succ, List.getElem_cons_zero] | dsimp (maxSteps := 10000000) only [List.getElem_toArray, List.getElem_cons_succ, List.getElem_cons_zero] | skip); (first | go_frame | simp (maxSteps := 10000000) only [Act.put, List.setIfInBounds_toArray, List.set_cons_succ, List.set_cons_zero] | skip)
  refine wpAnyC_done (by kernel_rfl) Hc5.out ?_ _
  (first | dsimp only [List.getElem_toArray, List.getElem_cons_succ, List.getElem_cons_zero] | dsimp (maxSteps := 10000000) only [List.getElem_toArray, List.getElem_cons_succ, List.getElem_cons_zero] | skip); (first | go_frame | simp (maxSteps := 10000000) only [Act.put, List.setIfInBounds_toArray, List.set_cons_succ, List.set_cons_zero] | skip)
  have HP7 := hid hp5
  have r0 : w5.cell? ⟨w.heap.size + 1, 0, none⟩ = some (.int .i64 id) := Blk.cell HW7.out.r 0
  clear hp5 PP
  go_wp2_with (first
    | ((with_reducible show wpList _ _ _ ({ dst := _, op := Op.build 68 _, type := _, pos := _, after := _, guard := _ } :: _) _ _); refine wpList_buildP rfl 68 [(0, .tmp 192), (1, .const (.int .i64 4)), (5, .tmp 193)] rfl (.agg (rpC ⟨id, 4, 0, [], [], PX⟩ nilS nilS (.slice pa PX.length pc))) (fun w => by kernel_rfl) ?_)
    | ((with_reducible show wpList _ _ _ ({ dst := _, op := Op.store 68 _ _, type := _, pos := _, after := _, guard := _ } :: _) _ _); refine wpList_store_blk rfl 68 _ _ rfl (w.heap.size + 1 + 1) rfl (rpC ⟨id, 4, 0, [], [], PX⟩ nilS nilS (.slice pa PX.length pc)) rfl _ _ HW7.out.y rfl Tryd.sizeRpS (rpC_oneS _ _ _ _ rfl rfl rfl) ?_))
  have HY8 := hid (HW7.out.y.setRow (cs' := (rpC ⟨id, 4, 0, [], [], PX⟩ nilS nilS (.slice pa PX.length pc))))
  have HB8 := hid (HW7.out.be.setRow (g := w.heap.size + 1 + 1) (by omega) (rpC ⟨id, 4, 0, [], [], PX⟩ nilS nilS (.slice pa PX.length pc)))
  have HP8 := hid (SlAt.setY (cs := rpC ⟨id, 4, 0, [], [], PX⟩ nilS nilS (.slice pa PX.length pc)) HP7.out HW7.out.y)
  refine bodyPost_ret (results_cell_row rfl _ _ (w.heap.size + 1 + 1) 68 _ (0, 0) _ rfl HY8.out Tryd.underlying68 rfl Tryd.sizeRpS) rfl ?_
  exact ⟨_, _, _, [], rfl, ⟨SgsAt.nil _, rfl, strsNil _, HP8.out⟩, HB8.out⟩
set_option maxHeartbeats 8000000 in
theorem ranswer_none (S : Src) (ve vl vh vf : Value) (kd : Int) (hd fd : List Sg) (id fr ct sz : Int) (w : World) (hX : SrcIn w S ve vl vh vf hd fd) (hs : SrcSmall S) (hk : ¬ (1 ≤ kd ∧ kd ≤ 5)) :
    Calls Tryd.prog 34 #[.agg (srcC ve vl vh vf), Rq.v ⟨id, kd, fr, ct, sz⟩] w fun e w' => AnsR w (ansRp S ⟨id, kd, fr, ct, sz⟩) e w' := by
  have k1 : ¬ kd = 1 := by omega
  have k2 : ¬ kd = 2 := by omega
  have k3 : ¬ kd = 3 := by omega
  have k4 : ¬ kd = 4 := by omega
  have k5 : ¬ kd = 5 := by omega
  have hE : ansRp S ⟨id, kd, fr, ct, sz⟩ = failRp id 2 := by simp [ansRp, k1, k2, k3, k4, k5]
  rw [hE]
  have F := hid (fun w0 => fails_any id 2 w0)
  have e1 : (kd == 1) = false := by simpa using k1
  have e2 : (kd == 2) = false := by simpa using k2
  have e3 : (kd == 3) = false := by simpa using k3
  have e4 : (kd == 4) = false := by simpa using k4
  have e5 : (kd == 5) = false := by simpa using k5
  have SZ := hid (fun w' (hb : Below w.heap.size w w') => rsize_any S ve vl vh vf hd fd w' (hX.below hb) hs)
  generalize sizeS S = N at *
  clear hE hk k1 k2 k3 k4 k5 hX hs
  go_enter Tryd.func34, Tryd.ntmps34
  go_upto_region 1 with fail
  refine wp_world (fun W => SrvW w W 63 (srcC ve vl vh vf) (Rq.cs ⟨id, kd, fr, ct, sz⟩)) (SrvW.new _ _ _ _) ?_
  intro w0 hW
  have HW0 := hid hW
  clear hW
  go_upto_region 2 with (first
    | ((with_reducible show wpList _ _ _ ({ dst := _, op := Op.load 63 _, type := _, pos := _, after := _, guard := _ } :: _) _ _); refine wpList_load_blk rfl 63 _ rfl w.heap.size rfl 63 (srcC ve vl vh vf) _ HW0.out.s Tryd.underlying63 rfl Tryd.sizeSrcR ?_)
    | (go_at_call 31; refine (SZ.out _ HW0.out.be).mono ?_; rintro e w3 ⟨rfl, hb3⟩))
  have HW := hid (HW0.out.later hb3)
  clear hb3 SZ HW0
  have r0 : w3.cell? ⟨w.heap.size + 1, 0, none⟩ = some (.int .i64 id) := Blk.cell HW.out.r 0
  have r1 : w3.cell? ⟨w.heap.size + 1, 1, none⟩ = some (.int .i64 kd) := Blk.cell HW.out.r 1
  go_wp2_with (first
    | (go_at_call 59; refine (F.out _).mono ?_; rintro e w9 ⟨rfl, hb9⟩)
    | ((with_reducible show wpList _ _ _ ({ dst := _, op := Op.store 68 _ _, type := _, pos := _, after := _, guard := _ } :: _) _ _); refine wpList_store_blk rfl 68 _ _ rfl (w.heap.size + 1 + 1) rfl (rpC (failRp id 2) nilS nilS nilS) rfl _ _ (HW.out.y.later hb9) rfl Tryd.sizeRpS (rpC_oneS _ _ _ _ rfl rfl rfl) ?_))
  refine bodyPost_ret (results_cell_row rfl _ _ (w.heap.size + 1 + 1) 68 _ (0, 0) _ rfl ((HW.out.y.later hb9).setRow) Tryd.underlying68 rfl Tryd.sizeRpS) rfl ?_
  exact ⟨_, _, _, [], rfl, failIn _ _ _, (bth HW.out.be hb9).setRow (by omega) _⟩
theorem ranswer_any (S : Src) (ve vl vh vf : Value) (hd fd : List Sg) (r : Rq) (w : World) (hX : SrcIn w S ve vl vh vf hd fd) (hs : SrcSmall S) :
    Calls Tryd.prog 34 #[.agg (srcC ve vl vh vf), r.v] w fun e w' => AnsR w (ansRp S r) e w' := by
  obtain ⟨id, kd, fr, ct, sz⟩ := r
  by_cases hk : 1 ≤ kd ∧ kd ≤ 5
  · rcases (by omega : kd = 1 ∨ kd = 2 ∨ kd = 3 ∨ kd = 4 ∨ kd = 5) with rfl | rfl | rfl | rfl | rfl
    · obtain ⟨ha, hac, rfl, _⟩ := hX.head.form
      by_cases h : S.head.length = 1
      · exact ranswer_head_ok S ve vl vf ha hac hd fd id fr ct sz w hX hs h
      · exact ranswer_head_no S ve vl vf ha hac hd fd id fr ct sz w hX hs h
    · by_cases h1 : ct < 1 ∨ 16 < ct ∨ fr < 0
      · exact ranswer_entries_arg S ve vl vh vf hd fd id fr ct sz w hX hs h1
      · by_cases h2 : sizeS S < sz ∨ sz < ct ∨ sz - ct < fr
        · exact ranswer_entries_range S ve vl vh vf hd fd id fr ct sz w hX hs h1 h2
        · exact ranswer_entries_ok S ve vl vh vf hd fd id fr ct sz w hX hs h1 h2
    · by_cases h : sizeS S < sz ∨ fr < 0 ∨ sz ≤ fr
      · exact ranswer_include_no S ve vl vh vf hd fd id fr ct sz w hX hs h
      · exact ranswer_include_ok S ve vl vh vf hd fd id fr ct sz w hX hs h
    · by_cases h : sizeS S < sz ∨ fr < 0 ∨ sz < fr
      · exact ranswer_consist_no S ve vl vh vf hd fd id fr ct sz w hX hs h
      · exact ranswer_consist_ok S ve vl vh vf hd fd id fr ct sz w hX hs h
    · obtain ⟨ha, hac, rfl, _⟩ := hX.fork.form
      by_cases h : S.fork.length = 2
      · exact ranswer_fork_ok S ve vl vh ha hac hd fd id fr ct sz w hX hs h
      · exact ranswer_fork_no S ve vl vh ha hac hd fd id fr ct sz w hX hs h
  · exact ranswer_none S ve vl vh vf kd hd fd id fr ct sz w hX hs hk
end Go.Proofs.YtbpjlancjdbehaaDoor
