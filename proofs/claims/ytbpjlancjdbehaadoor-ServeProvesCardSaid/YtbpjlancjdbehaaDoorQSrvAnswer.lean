/- serve.Answer -/
import Derived.Test.YtbpjlancjdbehaaDoorQSrvEntries

set_option maxRecDepth 100000
namespace Go.Proofs.YtbpjlancjdbehaaDoor
open Go.RowKit Go.Spec
theorem Tryd.infoSignedS : (Tryd.prog.info? 92).map (fun i => (i.zero, i.size, i.bytes)) = some (some (.agg (sgA 0 zero32 0 [] (.slice none 0 0))), 36, 88) := by kernel_rfl
theorem sgL_one (ds : List Sg) : ∀ u ∈ (ds.map Sg.L).flatten, u.oneCell' = true := by
  intro u hu
  simp only [List.mem_flatten, List.mem_map] at hu
  obtain ⟨l, ⟨d, _, rfl⟩, hu⟩ := hu
  simp only [Sg.L, sgA, List.mem_cons, List.mem_append, List.mem_map, List.not_mem_nil, or_false] at hu
  rcases hu with rfl | ⟨b, _, rfl⟩ | rfl | rfl | rfl
  · rfl
  · rfl
  · rfl
  · rfl
  · rfl
/-- a reply's variable has no text -/
theorem rp_farS {W : World} {g k j : Nat} {x : RpK} {t : TypeId} {s : List UInt8} (h : Blk W g (rpC x nilS nilS nilS) t) (hc : W.cell? ⟨k, j, none⟩ = some (sv s)) : k ≠ g := fun e => by
  subst e
  have hq := h.cell j
  rw [hc] at hq
  match j, hq with
  | 0, q => simp [rpC] at q
  | 1, q => simp [rpC] at q
  | 2, q => simp [rpC] at q
  | 3, q => simp [rpC] at q
  | 4, q => simp [rpC] at q
  | 5, q => simp [rpC] at q
  | j + 6, q => simp [rpC] at q
theorem StrsAt.setY {W : World} {g : Nat} {v : Value} {ls : List (List UInt8)} {x : RpK} {t : TypeId} {cs : Array Value} (h : StrsAt W v ls) (hy : Blk W g (rpC x nilS nilS nilS) t) : StrsAt (W.setRow g cs) v ls := by
  obtain ⟨a, cap, hv, hc, hs', hr⟩ := h
  refine ⟨a, cap, hv, hc, hs', fun i c hi => ?_⟩
  obtain ⟨k, o, ha, hlt, hcell⟩ := hr i c hi
  have hi' : i < ls.length := by
    have := (List.getElem?_eq_some_iff.1 hi).1
    simpa [scells] using this
  have he : c = [sv ls[i]] := by
    simp only [scells, List.getElem?_map, List.getElem?_eq_getElem hi', Option.map_some] at hi
    injection hi with hi
    exact hi.symm
  subst he
  have n1 := rp_farS hy (hcell 0 _ rfl)
  refine ⟨k, o, ha, by rw [setRow_size']; exact hlt, fun j u hj => ?_⟩
  have := hcell j u hj
  unfold World.cell? at this ⊢
  rw [setRow_ne n1]; exact this
theorem entRp_heads (S : Src) (r : Rq) : (entRp S r).heads = [] := by
  unfold entRp
  split
  · rfl
  split <;> rfl
set_option maxHeartbeats 4000000 in
theorem answer_head_no (S : Src) (ve vl vf : Value) (ha : Option Addr) (hac : Nat) (hd fd : List Sg) (id fr ct sz : Int) (w : World) (hX : SrcIn w S ve vl (.slice ha hd.length hac) vf hd fd) (hs : SrcSmall S) (hn : ¬ S.head.length = 1) :
    Calls Tryd.prog 33 #[.agg (srcC ve vl (.slice ha hd.length hac) vf), Rq.v ⟨id, 1, fr, ct, sz⟩] w fun e w' => AnsR w (ansRp S ⟨id, 1, fr, ct, sz⟩) e w' := by
  have hE : ansRp S ⟨id, 1, fr, ct, sz⟩ = failRp id 4 := by simp [ansRp, hn]
  rw [hE]
  clear hE
  have hlen : hd.length = S.head.length := by rw [← hX.hk, List.length_map]
  have F := hid (fun w0 => failed_any id 4 w0)
  have h1 := hs.h1; have h2 := hs.f1
  have d1 : ((hd.length : Int) != 1) = true := by simp; omega
  have hl3 : hd.length ≤ 3 := by omega
  clear hX hs hn h1 h2 hlen
  go_enter Tryd.func33, Tryd.ntmps33
  go_upto_region 1 with fail
  refine wp_world (fun W => SrvW w W 59 (srcC ve vl (.slice ha hd.length hac) vf) (Rq.cs ⟨id, 1, fr, ct, sz⟩)) (SrvW.new _ _ _ _) ?_
  intro w0 hW
  have HW := hid hW
  have r0 : w0.cell? ⟨w.heap.size + 1, 0, none⟩ = some (.int .i64 id) := Blk.cell hW.r 0
  have r1 : w0.cell? ⟨w.heap.size + 1, 1, none⟩ = some (.int .i64 1) := Blk.cell hW.r 1
  have a2 : w0.cell? ⟨w.heap.size, 2, none⟩ = some (.slice ha hd.length hac) := Blk.cell hW.s 2
  clear hW
  go_wp2_with (first
    | (go_at_call 54; refine (F.out _).mono ?_; rintro e w9 ⟨rfl, hb9⟩)
    | ((with_reducible show wpList _ _ _ ({ dst := _, op := Op.store 68 _ _, type := _, pos := _, after := _, guard := _ } :: _) _ _); refine wpList_store_blk rfl 68 _ _ rfl (w.heap.size + 1 + 1) rfl (rpC (failRp id 4) nilS nilS nilS) rfl _ _ (HW.out.y.later hb9) rfl Tryd.sizeRpS (rpC_oneS _ _ _ _ rfl rfl rfl) ?_))
  refine bodyPost_ret (results_cell_row rfl _ _ (w.heap.size + 1 + 1) 68 _ (0, 0) _ rfl ((HW.out.y.later hb9).setRow) Tryd.underlying68 rfl Tryd.sizeRpS) rfl ?_
  exact ⟨_, _, _, [], rfl, failIn _ _ _, (bth HW.out.be hb9).setRow (by omega) _⟩
set_option maxHeartbeats 8000000 in
theorem answer_head_ok (S : Src) (ve vl vf : Value) (ha : Option Addr) (hac : Nat) (hd fd : List Sg) (id fr ct sz : Int) (w : World) (hX : SrcIn w S ve vl (.slice ha hd.length hac) vf hd fd) (hs : SrcSmall S) (hn : S.head.length = 1) :
    Calls Tryd.prog 33 #[.agg (srcC ve vl (.slice ha hd.length hac) vf), Rq.v ⟨id, 1, fr, ct, sz⟩] w fun e w' => AnsR w (ansRp S ⟨id, 1, fr, ct, sz⟩) e w' := by
  have hE : ansRp S ⟨id, 1, fr, ct, sz⟩ = ⟨id, 2, 0, S.head, [], []⟩ := by simp [ansRp, hn]
  rw [hE]
  clear hE
  obtain ⟨j0, hj0, hz0, hz1, hz2⟩ := info_parts Tryd.infoSignedS
  have hlen : hd.length = 1 := by rw [← hn, ← hX.hk, List.length_map]
  have HX := hid hX
  have HK := hid hX.hk
  have d1 : ((hd.length : Int) != 1) = false := by simp [hlen]
  have hl3 : hd.length ≤ 3 := by omega
  clear hX hs hn hlen
  go_enter Tryd.func33, Tryd.ntmps33
  go_upto_region 1 with fail
  refine wp_world (fun W => SrvW w W 59 (srcC ve vl (.slice ha hd.length hac) vf) (Rq.cs ⟨id, 1, fr, ct, sz⟩)) (SrvW.new _ _ _ _) ?_
  intro w0 hW
  have HW := hid hW
  have r0 : w0.cell? ⟨w.heap.size + 1, 0, none⟩ = some (.int .i64 id) := Blk.cell hW.r 0
  have r1 : w0.cell? ⟨w.heap.size + 1, 1, none⟩ = some (.int .i64 1) := Blk.cell hW.r 1
  have a2 : w0.cell? ⟨w.heap.size, 2, none⟩ = some (.slice ha hd.length hac) := Blk.cell hW.s 2
  clear hW
  go_upto_region 5 with fail
  refine wp_region_anyK 6 (fun w' => Below w0.heap.size w0 w') (by kernel_rfl) ?_
  intro x0 he0 hbx0
  have Hc0 := hid hbx0
  clear hbx0 he0 r0 r1 a2
  show wpAnyK _ _ _ _ _ _ 7 (Array.replicate 7 false) _ _
  refine wpAnyK_take (i := 0) (v := .pointer (some ⟨w.heap.size + 1, 0, none⟩)) rfl (by kernel_rfl) (by kernel_rfl) (by kernel_rfl) (fun _ _ _ h => h) (by kernel_rfl) (Or.inl ⟨by kernel_rfl, ?_⟩) ?_
  · intro w _
    go_simp
    try exact IntWalk.i64_in _ (by omega)
    try omega
  (first | dsimp only [List.getElem_toArray, List.getElem_cons_succ, List.getElem_cons_zero] | dsimp (maxSteps := 10000000) only [List.getElem_toArray, List.getElem_cons_succ, List.getElem_cons_zero] | skip); (first | go_frame | simp (maxSteps := 10000000) only [Act.put, List.setIfInBounds_toArray, List.set_cons_succ, List.set_cons_zero] | skip)
  refine wpAnyK_take (i := 1) (v := .int .i64 id) rfl (by kernel_rfl) (by kernel_rfl) (by kernel_rfl) (fun _ _ _ h => h) (by kernel_rfl) (YieldsW.load_one (by kernel_rfl) 3 _ rfl ⟨w.heap.size + 1, 0, none⟩ (by kernel_rfl) (.int .i64 id) _ (fun _ hw => Blk.cell (HW.out.later hw).r 0) Tryd.underlying3 rfl) ?_
  (first | dsimp only [List.getElem_toArray, List.getElem_cons_succ, List.getElem_cons_zero] | dsimp (maxSteps := 10000000) only [List.getElem_toArray, List.getElem_cons_succ, List.getElem_cons_zero] | skip); (first | go_frame | simp (maxSteps := 10000000) only [Act.put, List.setIfInBounds_toArray, List.set_cons_succ, List.set_cons_zero] | skip)
  refine wpAnyK_take (i := 2) (v := .pointer (some ⟨w.heap.size, 2, none⟩)) rfl (by kernel_rfl) (by kernel_rfl) (by kernel_rfl) (fun _ _ _ h => h) (by kernel_rfl) (Or.inl ⟨by kernel_rfl, ?_⟩) ?_
  · intro w _
    go_simp
    try exact IntWalk.i64_in _ (by omega)
    try omega
  (first | dsimp only [List.getElem_toArray, List.getElem_cons_succ, List.getElem_cons_zero] | dsimp (maxSteps := 10000000) only [List.getElem_toArray, List.getElem_cons_succ, List.getElem_cons_zero] | skip); (first | go_frame | simp (maxSteps := 10000000) only [Act.put, List.setIfInBounds_toArray, List.set_cons_succ, List.set_cons_zero] | skip)
  refine wpAnyK_take (i := 3) (v := .slice ha hd.length hac) rfl (by kernel_rfl) (by kernel_rfl) (by kernel_rfl) (fun _ _ _ h => h) (by kernel_rfl) (YieldsW.load_one (by kernel_rfl) 57 _ rfl ⟨w.heap.size, 2, none⟩ (by kernel_rfl) (.slice ha hd.length hac) _ (fun _ hw => Blk.cell (HW.out.later hw).s 2) Tryd.underlying57 rfl) ?_
  (first | dsimp only [List.getElem_toArray, List.getElem_cons_succ, List.getElem_cons_zero] | dsimp (maxSteps := 10000000) only [List.getElem_toArray, List.getElem_cons_succ, List.getElem_cons_zero] | skip); (first | go_frame | simp (maxSteps := 10000000) only [Act.put, List.setIfInBounds_toArray, List.set_cons_succ, List.set_cons_zero] | skip)
  refine wpAnyK_forced (i := 4) (by kernel_rfl) rfl (fun _ => Hc0.out) ?_
  (first | dsimp only [List.getElem_toArray, List.getElem_cons_succ, List.getElem_cons_zero] | dsimp (maxSteps := 10000000) only [List.getElem_toArray, List.getElem_cons_succ, List.getElem_cons_zero] | skip); (first | go_frame | simp (maxSteps := 10000000) only [Act.put, List.setIfInBounds_toArray, List.set_cons_succ, List.set_cons_zero] | skip)
  refine wpList_cloneS rfl _ _ 57 rfl 92 j0 (.agg (sgA 0 zero32 0 [] (.slice none 0 0))) 36 88 Tryd.underlying57 hj0 hz0 hz1 hz2 rfl (by decide) rfl ha hd.length hac rfl (hd.map Sg.L) (by rw [List.length_map]) ((HX.out.head.below (bth HW.out.be Hc0.out)).at_) (sgL_one _) (by unfold maxLen; omega) (by omega) ?_
  intro v6 w6 hown6 hb6
  obtain ⟨va, vc, rfl, _⟩ := ownsRow_form hown6
  have Hc6 := hid (bth Hc0.out hb6)
  have Hown6 := hid hown6
  clear hown6 hb6
  refine wpList_nil ?_
  show wpAnyK _ _ _ _ _ _ _ _ _ _
  (first | dsimp only [List.getElem_toArray, List.getElem_cons_succ, List.getElem_cons_zero] | dsimp (maxSteps := 10000000) only [List.getElem_toArray, List.getElem_cons_succ, List.getElem_cons_zero] | skip); (first | go_frame | simp (maxSteps := 10000000) only [Act.put, List.setIfInBounds_toArray, List.set_cons_succ, List.set_cons_zero] | skip)
  refine wpAnyK_forced (i := 5) (by kernel_rfl) rfl (fun _ => Hc6.out) ?_
  (first | dsimp only [List.getElem_toArray, List.getElem_cons_succ, List.getElem_cons_zero] | dsimp (maxSteps := 10000000) only [List.getElem_toArray, List.getElem_cons_succ, List.getElem_cons_zero] | skip); (first | go_frame | simp (maxSteps := 10000000) only [Act.put, List.setIfInBounds_toArray, List.set_cons_succ, List.set_cons_zero] | skip)
  refine wpList_buildP rfl 68 [(0, .tmp 21), (1, .const (.int .i64 2)), (3, .tmp 24)] rfl (.agg (rpC ⟨id, 2, 0, S.head, [], []⟩ (.slice va hd.length vc) nilS nilS)) (fun w => by kernel_rfl) ?_
  refine wpList_nil ?_
  show wpAnyK _ _ _ _ _ _ _ _ _ _
  (first | dsimp only [List.getElem_toArray, List.getElem_cons_succ, List.getElem_cons_zero] | dsimp (maxSteps := 10000000) only [List.getElem_toArray, List.getElem_cons_succ, List.getElem_cons_zero] | skip); (first | go_frame | simp (maxSteps := 10000000) only [Act.put, List.setIfInBounds_toArray, List.set_cons_succ, List.set_cons_zero] | skip)
  have HW7 := hid (HW.out.later Hc6.out)
  have Hx0 := hid (show w.heap.size + 1 + 1 < x0.heap.size from Nat.lt_of_lt_of_le HW.out.y.lt Hc0.out.size)
  refine wpAnyK_forced (i := 6) (by kernel_rfl) rfl (fun _ => Hc6.out) ?_
  (first | dsimp only [List.getElem_toArray, List.getElem_cons_succ, List.getElem_cons_zero] | dsimp (maxSteps := 10000000) only [List.getElem_toArray, List.getElem_cons_succ, List.getElem_cons_zero] | skip); (first | go_frame | simp (maxSteps := 10000000) only [Act.put, List.setIfInBounds_toArray, List.set_cons_succ, List.set_cons_zero] | skip)
  refine wpList_store_blk rfl 68 _ _ rfl (w.heap.size + 1 + 1) rfl (rpC ⟨id, 2, 0, S.head, [], []⟩ (.slice va hd.length vc) nilS nilS) rfl _ _ HW7.out.y rfl Tryd.sizeRpS (rpC_oneS _ _ _ _ rfl rfl rfl) ?_
  refine wpList_nil ?_
  show wpAnyK _ _ _ _ _ _ _ _ _ _
  (first | dsimp only [List.getElem_toArray, List.getElem_cons_succ, List.getElem_cons_zero] | dsimp (maxSteps := 10000000) only [List.getElem_toArray, List.getElem_cons_succ, List.getElem_cons_zero] | skip); (first | go_frame | simp (maxSteps := 10000000) only [Act.put, List.setIfInBounds_toArray, List.set_cons_succ, List.set_cons_zero] | skip)
  refine wpAnyK_done (by kernel_rfl) (by kernel_rfl) ?_ _
  (first | dsimp only [List.getElem_toArray, List.getElem_cons_succ, List.getElem_cons_zero] | dsimp (maxSteps := 10000000) only [List.getElem_toArray, List.getElem_cons_succ, List.getElem_cons_zero] | skip); (first | go_frame | simp (maxSteps := 10000000) only [Act.put, List.setIfInBounds_toArray, List.set_cons_succ, List.set_cons_zero] | skip)
  have HY8 := hid (HW7.out.y.setRow (cs' := (rpC ⟨id, 2, 0, S.head, [], []⟩ (.slice va hd.length vc) nilS nilS)))
  have HB8 := hid (HW7.out.be.setRow (g := w.heap.size + 1 + 1) (by omega) (rpC ⟨id, 2, 0, S.head, [], []⟩ (.slice va hd.length vc) nilS nilS))
  have Hown8 := hid (Hown6.out.setB (g := w.heap.size + 1 + 1) (cs := rpC ⟨id, 2, 0, S.head, [], []⟩ (.slice va hd.length vc) nilS nilS) Hx0.out)
  generalize w6.setRow (w.heap.size + 1 + 1) (rpC ⟨id, 2, 0, S.head, [], []⟩ (.slice va hd.length vc) nilS nilS) = w8 at *
  go_wp2
  have hSg : SgsAt w8 (.slice va hd.length vc) hd := SgsAt.of_owns (base := x0.heap.size) (e := 92) Hown8.out (fun d hd => (HX.out.head.ok d hd).below HB8.out)
  refine bodyPost_ret (results_cell_row rfl _ _ (w.heap.size + 1 + 1) 68 _ (0, 0) _ rfl HY8.out Tryd.underlying68 rfl Tryd.sizeRpS) rfl ?_
  exact ⟨_, _, _, hd, rfl, ⟨hSg, HK.out, strsNil _, slNilP _⟩, HB8.out⟩
set_option maxHeartbeats 4000000 in
theorem answer_fork_no (S : Src) (ve vl vh : Value) (ha : Option Addr) (hac : Nat) (hd fd : List Sg) (id fr ct sz : Int) (w : World) (hX : SrcIn w S ve vl vh (.slice ha fd.length hac) hd fd) (hs : SrcSmall S) (hn : ¬ S.fork.length = 2) :
    Calls Tryd.prog 33 #[.agg (srcC ve vl vh (.slice ha fd.length hac)), Rq.v ⟨id, 5, fr, ct, sz⟩] w fun e w' => AnsR w (ansRp S ⟨id, 5, fr, ct, sz⟩) e w' := by
  have hE : ansRp S ⟨id, 5, fr, ct, sz⟩ = failRp id 4 := by simp [ansRp, hn]
  rw [hE]
  clear hE
  have hlen : fd.length = S.fork.length := by rw [← hX.fk, List.length_map]
  have F := hid (fun w0 => failed_any id 4 w0)
  have h1 := hs.h1; have h2 := hs.f1
  have d1 : ((fd.length : Int) != 2) = true := by simp; omega
  have hl3 : fd.length ≤ 3 := by omega
  clear hX hs hn h1 h2 hlen
  go_enter Tryd.func33, Tryd.ntmps33
  go_upto_region 1 with fail
  refine wp_world (fun W => SrvW w W 59 (srcC ve vl vh (.slice ha fd.length hac)) (Rq.cs ⟨id, 5, fr, ct, sz⟩)) (SrvW.new _ _ _ _) ?_
  intro w0 hW
  have HW := hid hW
  have r0 : w0.cell? ⟨w.heap.size + 1, 0, none⟩ = some (.int .i64 id) := Blk.cell hW.r 0
  have r1 : w0.cell? ⟨w.heap.size + 1, 1, none⟩ = some (.int .i64 5) := Blk.cell hW.r 1
  have a2 : w0.cell? ⟨w.heap.size, 3, none⟩ = some (.slice ha fd.length hac) := Blk.cell hW.s 3
  clear hW
  go_wp2_with (first
    | (go_at_call 54; refine (F.out _).mono ?_; rintro e w9 ⟨rfl, hb9⟩)
    | ((with_reducible show wpList _ _ _ ({ dst := _, op := Op.store 68 _ _, type := _, pos := _, after := _, guard := _ } :: _) _ _); refine wpList_store_blk rfl 68 _ _ rfl (w.heap.size + 1 + 1) rfl (rpC (failRp id 4) nilS nilS nilS) rfl _ _ (HW.out.y.later hb9) rfl Tryd.sizeRpS (rpC_oneS _ _ _ _ rfl rfl rfl) ?_))
  refine bodyPost_ret (results_cell_row rfl _ _ (w.heap.size + 1 + 1) 68 _ (0, 0) _ rfl ((HW.out.y.later hb9).setRow) Tryd.underlying68 rfl Tryd.sizeRpS) rfl ?_
  exact ⟨_, _, _, [], rfl, failIn _ _ _, (bth HW.out.be hb9).setRow (by omega) _⟩
set_option maxHeartbeats 8000000 in
theorem answer_fork_ok (S : Src) (ve vl vh : Value) (ha : Option Addr) (hac : Nat) (hd fd : List Sg) (id fr ct sz : Int) (w : World) (hX : SrcIn w S ve vl vh (.slice ha fd.length hac) hd fd) (hs : SrcSmall S) (hn : S.fork.length = 2) :
    Calls Tryd.prog 33 #[.agg (srcC ve vl vh (.slice ha fd.length hac)), Rq.v ⟨id, 5, fr, ct, sz⟩] w fun e w' => AnsR w (ansRp S ⟨id, 5, fr, ct, sz⟩) e w' := by
  have hE : ansRp S ⟨id, 5, fr, ct, sz⟩ = ⟨id, 5, 0, S.fork, [], []⟩ := by simp [ansRp, hn]
  rw [hE]
  clear hE
  obtain ⟨j0, hj0, hz0, hz1, hz2⟩ := info_parts Tryd.infoSignedS
  have hlen : fd.length = 2 := by rw [← hn, ← hX.fk, List.length_map]
  have HX := hid hX
  have HK := hid hX.fk
  have d1 : ((fd.length : Int) != 2) = false := by simp [hlen]
  have hl3 : fd.length ≤ 3 := by omega
  clear hX hs hn hlen
  go_enter Tryd.func33, Tryd.ntmps33
  go_upto_region 1 with fail
  refine wp_world (fun W => SrvW w W 59 (srcC ve vl vh (.slice ha fd.length hac)) (Rq.cs ⟨id, 5, fr, ct, sz⟩)) (SrvW.new _ _ _ _) ?_
  intro w0 hW
  have HW := hid hW
  have r0 : w0.cell? ⟨w.heap.size + 1, 0, none⟩ = some (.int .i64 id) := Blk.cell hW.r 0
  have r1 : w0.cell? ⟨w.heap.size + 1, 1, none⟩ = some (.int .i64 5) := Blk.cell hW.r 1
  have a2 : w0.cell? ⟨w.heap.size, 3, none⟩ = some (.slice ha fd.length hac) := Blk.cell hW.s 3
  clear hW
  go_upto_region 9 with fail
  refine wp_region_anyK 6 (fun w' => Below w0.heap.size w0 w') (by kernel_rfl) ?_
  intro x0 he0 hbx0
  have Hc0 := hid hbx0
  clear hbx0 he0 r0 r1 a2
  show wpAnyK _ _ _ _ _ _ 7 (Array.replicate 7 false) _ _
  refine wpAnyK_take (i := 0) (v := .pointer (some ⟨w.heap.size + 1, 0, none⟩)) rfl (by kernel_rfl) (by kernel_rfl) (by kernel_rfl) (fun _ _ _ h => h) (by kernel_rfl) (Or.inl ⟨by kernel_rfl, ?_⟩) ?_
  · intro w _
    go_simp
    try exact IntWalk.i64_in _ (by omega)
    try omega
  (first | dsimp only [List.getElem_toArray, List.getElem_cons_succ, List.getElem_cons_zero] | dsimp (maxSteps := 10000000) only [List.getElem_toArray, List.getElem_cons_succ, List.getElem_cons_zero] | skip); (first | go_frame | simp (maxSteps := 10000000) only [Act.put, List.setIfInBounds_toArray, List.set_cons_succ, List.set_cons_zero] | skip)
  refine wpAnyK_take (i := 1) (v := .int .i64 id) rfl (by kernel_rfl) (by kernel_rfl) (by kernel_rfl) (fun _ _ _ h => h) (by kernel_rfl) (YieldsW.load_one (by kernel_rfl) 3 _ rfl ⟨w.heap.size + 1, 0, none⟩ (by kernel_rfl) (.int .i64 id) _ (fun _ hw => Blk.cell (HW.out.later hw).r 0) Tryd.underlying3 rfl) ?_
  (first | dsimp only [List.getElem_toArray, List.getElem_cons_succ, List.getElem_cons_zero] | dsimp (maxSteps := 10000000) only [List.getElem_toArray, List.getElem_cons_succ, List.getElem_cons_zero] | skip); (first | go_frame | simp (maxSteps := 10000000) only [Act.put, List.setIfInBounds_toArray, List.set_cons_succ, List.set_cons_zero] | skip)
  refine wpAnyK_take (i := 2) (v := .pointer (some ⟨w.heap.size, 3, none⟩)) rfl (by kernel_rfl) (by kernel_rfl) (by kernel_rfl) (fun _ _ _ h => h) (by kernel_rfl) (Or.inl ⟨by kernel_rfl, ?_⟩) ?_
  · intro w _
    go_simp
    try exact IntWalk.i64_in _ (by omega)
    try omega
  (first | dsimp only [List.getElem_toArray, List.getElem_cons_succ, List.getElem_cons_zero] | dsimp (maxSteps := 10000000) only [List.getElem_toArray, List.getElem_cons_succ, List.getElem_cons_zero] | skip); (first | go_frame | simp (maxSteps := 10000000) only [Act.put, List.setIfInBounds_toArray, List.set_cons_succ, List.set_cons_zero] | skip)
  refine wpAnyK_take (i := 3) (v := .slice ha fd.length hac) rfl (by kernel_rfl) (by kernel_rfl) (by kernel_rfl) (fun _ _ _ h => h) (by kernel_rfl) (YieldsW.load_one (by kernel_rfl) 57 _ rfl ⟨w.heap.size, 3, none⟩ (by kernel_rfl) (.slice ha fd.length hac) _ (fun _ hw => Blk.cell (HW.out.later hw).s 3) Tryd.underlying57 rfl) ?_
  (first | dsimp only [List.getElem_toArray, List.getElem_cons_succ, List.getElem_cons_zero] | dsimp (maxSteps := 10000000) only [List.getElem_toArray, List.getElem_cons_succ, List.getElem_cons_zero] | skip); (first | go_frame | simp (maxSteps := 10000000) only [Act.put, List.setIfInBounds_toArray, List.set_cons_succ, List.set_cons_zero] | skip)
  refine wpAnyK_forced (i := 4) (by kernel_rfl) rfl (fun _ => Hc0.out) ?_
  (first | dsimp only [List.getElem_toArray, List.getElem_cons_succ, List.getElem_cons_zero] | dsimp (maxSteps := 10000000) only [List.getElem_toArray, List.getElem_cons_succ, List.getElem_cons_zero] | skip); (first | go_frame | simp (maxSteps := 10000000) only [Act.put, List.setIfInBounds_toArray, List.set_cons_succ, List.set_cons_zero] | skip)
  refine wpList_cloneS rfl _ _ 57 rfl 92 j0 (.agg (sgA 0 zero32 0 [] (.slice none 0 0))) 36 88 Tryd.underlying57 hj0 hz0 hz1 hz2 rfl (by decide) rfl ha fd.length hac rfl (fd.map Sg.L) (by rw [List.length_map]) ((HX.out.fork.below (bth HW.out.be Hc0.out)).at_) (sgL_one _) (by unfold maxLen; omega) (by omega) ?_
  intro v6 w6 hown6 hb6
  obtain ⟨va, vc, rfl, _⟩ := ownsRow_form hown6
  have Hc6 := hid (bth Hc0.out hb6)
  have Hown6 := hid hown6
  clear hown6 hb6
  refine wpList_nil ?_
  show wpAnyK _ _ _ _ _ _ _ _ _ _
  (first | dsimp only [List.getElem_toArray, List.getElem_cons_succ, List.getElem_cons_zero] | dsimp (maxSteps := 10000000) only [List.getElem_toArray, List.getElem_cons_succ, List.getElem_cons_zero] | skip); (first | go_frame | simp (maxSteps := 10000000) only [Act.put, List.setIfInBounds_toArray, List.set_cons_succ, List.set_cons_zero] | skip)
  refine wpAnyK_forced (i := 5) (by kernel_rfl) rfl (fun _ => Hc6.out) ?_
  (first | dsimp only [List.getElem_toArray, List.getElem_cons_succ, List.getElem_cons_zero] | dsimp (maxSteps := 10000000) only [List.getElem_toArray, List.getElem_cons_succ, List.getElem_cons_zero] | skip); (first | go_frame | simp (maxSteps := 10000000) only [Act.put, List.setIfInBounds_toArray, List.set_cons_succ, List.set_cons_zero] | skip)
  refine wpList_buildP rfl 68 [(0, .tmp 36), (1, .const (.int .i64 5)), (3, .tmp 39)] rfl (.agg (rpC ⟨id, 5, 0, S.fork, [], []⟩ (.slice va fd.length vc) nilS nilS)) (fun w => by kernel_rfl) ?_
  refine wpList_nil ?_
  show wpAnyK _ _ _ _ _ _ _ _ _ _
  (first | dsimp only [List.getElem_toArray, List.getElem_cons_succ, List.getElem_cons_zero] | dsimp (maxSteps := 10000000) only [List.getElem_toArray, List.getElem_cons_succ, List.getElem_cons_zero] | skip); (first | go_frame | simp (maxSteps := 10000000) only [Act.put, List.setIfInBounds_toArray, List.set_cons_succ, List.set_cons_zero] | skip)
  have HW7 := hid (HW.out.later Hc6.out)
  have Hx0 := hid (show w.heap.size + 1 + 1 < x0.heap.size from Nat.lt_of_lt_of_le HW.out.y.lt Hc0.out.size)
  refine wpAnyK_forced (i := 6) (by kernel_rfl) rfl (fun _ => Hc6.out) ?_
  (first | dsimp only [List.getElem_toArray, List.getElem_cons_succ, List.getElem_cons_zero] | dsimp (maxSteps := 10000000) only [List.getElem_toArray, List.getElem_cons_succ, List.getElem_cons_zero] | skip); (first | go_frame | simp (maxSteps := 10000000) only [Act.put, List.setIfInBounds_toArray, List.set_cons_succ, List.set_cons_zero] | skip)
  refine wpList_store_blk rfl 68 _ _ rfl (w.heap.size + 1 + 1) rfl (rpC ⟨id, 5, 0, S.fork, [], []⟩ (.slice va fd.length vc) nilS nilS) rfl _ _ HW7.out.y rfl Tryd.sizeRpS (rpC_oneS _ _ _ _ rfl rfl rfl) ?_
  refine wpList_nil ?_
  show wpAnyK _ _ _ _ _ _ _ _ _ _
  (first | dsimp only [List.getElem_toArray, List.getElem_cons_succ, List.getElem_cons_zero] | dsimp (maxSteps := 10000000) only [List.getElem_toArray, List.getElem_cons_succ, List.getElem_cons_zero] | skip); (first | go_frame | simp (maxSteps := 10000000) only [Act.put, List.setIfInBounds_toArray, List.set_cons_succ, List.set_cons_zero] | skip)
  refine wpAnyK_done (by kernel_rfl) (by kernel_rfl) ?_ _
  (first | dsimp only [List.getElem_toArray, List.getElem_cons_succ, List.getElem_cons_zero] | dsimp (maxSteps := 10000000) only [List.getElem_toArray, List.getElem_cons_succ, List.getElem_cons_zero] | skip); (first | go_frame | simp (maxSteps := 10000000) only [Act.put, List.setIfInBounds_toArray, List.set_cons_succ, List.set_cons_zero] | skip)
  have HY8 := hid (HW7.out.y.setRow (cs' := (rpC ⟨id, 5, 0, S.fork, [], []⟩ (.slice va fd.length vc) nilS nilS)))
  have HB8 := hid (HW7.out.be.setRow (g := w.heap.size + 1 + 1) (by omega) (rpC ⟨id, 5, 0, S.fork, [], []⟩ (.slice va fd.length vc) nilS nilS))
  have Hown8 := hid (Hown6.out.setB (g := w.heap.size + 1 + 1) (cs := rpC ⟨id, 5, 0, S.fork, [], []⟩ (.slice va fd.length vc) nilS nilS) Hx0.out)
  generalize w6.setRow (w.heap.size + 1 + 1) (rpC ⟨id, 5, 0, S.fork, [], []⟩ (.slice va fd.length vc) nilS nilS) = w8 at *
  go_wp2
  have hSg : SgsAt w8 (.slice va fd.length vc) fd := SgsAt.of_owns (base := x0.heap.size) (e := 92) Hown8.out (fun d hd => (HX.out.fork.ok d hd).below HB8.out)
  refine bodyPost_ret (results_cell_row rfl _ _ (w.heap.size + 1 + 1) 68 _ (0, 0) _ rfl HY8.out Tryd.underlying68 rfl Tryd.sizeRpS) rfl ?_
  exact ⟨_, _, _, fd, rfl, ⟨hSg, HK.out, strsNil _, slNilP _⟩, HB8.out⟩
set_option maxHeartbeats 4000000 in
theorem answer_entries (S : Src) (ve vl vh vf : Value) (hd fd : List Sg) (id fr ct sz : Int) (w : World) (hX : SrcIn w S ve vl vh vf hd fd) (hs : SrcSmall S) (hi : RqI ⟨id, 2, fr, ct, sz⟩) (hG : ShaG w) :
    Calls Tryd.prog 33 #[.agg (srcC ve vl vh vf), Rq.v ⟨id, 2, fr, ct, sz⟩] w fun e w' => AnsR w (ansRp S ⟨id, 2, fr, ct, sz⟩) e w' := by
  have hE : ansRp S ⟨id, 2, fr, ct, sz⟩ = entRp S ⟨id, 2, fr, ct, sz⟩ := by simp [ansRp]
  rw [hE]
  clear hE
  have HH := hid (entRp_heads S ⟨id, 2, fr, ct, sz⟩)
  have EA := hid (fun w' (hb : Below w.heap.size w w') => entries_any S ve vl vh vf hd fd ⟨id, 2, fr, ct, sz⟩ w' (hX.below hb) hs hi (hG.later hb))
  generalize entRp S ⟨id, 2, fr, ct, sz⟩ = x at *
  clear hX hs hi hG
  go_enter Tryd.func33, Tryd.ntmps33
  go_upto_region 1 with fail
  refine wp_world (fun W => SrvW w W 59 (srcC ve vl vh vf) (Rq.cs ⟨id, 2, fr, ct, sz⟩)) (SrvW.new _ _ _ _) ?_
  intro w0 hW
  have HW := hid hW
  have r1 : w0.cell? ⟨w.heap.size + 1, 1, none⟩ = some (.int .i64 2) := Blk.cell hW.r 1
  clear hW
  go_wp2_with (first
    | ((with_reducible show wpList _ _ _ ({ dst := _, op := Op.load 59 _, type := _, pos := _, after := _, guard := _ } :: _) _ _); refine wpList_load_blk rfl 59 _ rfl w.heap.size rfl 59 (srcC ve vl vh vf) _ HW.out.s Tryd.underlying59 rfl Tryd.sizeSrc ?_)
    | ((with_reducible show wpList _ _ _ ({ dst := _, op := Op.load 61 _, type := _, pos := _, after := _, guard := _ } :: _) _ _); refine wpList_load_blk rfl 61 _ rfl (w.heap.size + 1) rfl 61 (Rq.cs ⟨id, 2, fr, ct, sz⟩) _ HW.out.r Tryd.underlying61 rfl Tryd.sizeRqS ?_)
    | (go_at_call 55; refine (EA.out _ HW.out.be).mono ?_; rintro e w9 ⟨uh, ue, up, ds, rfl, hin, hb9⟩; obtain rfl : ds = [] := (by have h := hin.keys; rw [HH.out] at h; exact List.map_eq_nil_iff.1 h); have HW7 := hid (HW.out.later hb9); have Hin := hid hin; clear hin hb9)
    | ((with_reducible show wpList _ _ _ ({ dst := _, op := Op.store 68 _ _, type := _, pos := _, after := _, guard := _ } :: _) _ _); refine wpList_store_blk rfl 68 _ _ rfl (w.heap.size + 1 + 1) rfl (rpC x uh ue up) rfl _ _ HW7.out.y rfl Tryd.sizeRpS (rpC_oneS _ _ _ _ (SlAt.oneS Hin.out.heads.at_) (SlAt.oneS Hin.out.entries) (SlAt.oneS Hin.out.proof)) ?_))
  have HY8 := hid (HW7.out.y.setRow (cs' := (rpC x uh ue up)))
  have HB8 := hid (HW7.out.be.setRow (g := w.heap.size + 1 + 1) (by omega) (rpC x uh ue up))
  have HE8 := hid (StrsAt.setY (cs := rpC x uh ue up) Hin.out.entries HW7.out.y)
  have HP8 := hid (SlAt.setY (cs := rpC x uh ue up) Hin.out.proof HW7.out.y)
  have HS8 := hid (show SgsAt (w9.setRow (w.heap.size + 1 + 1) (rpC x uh ue up)) uh [] from by
    obtain ⟨a, cap, rfl, _⟩ := Hin.out.heads.form
    exact ⟨⟨a, cap, rfl, Nat.zero_le _, by simp, by simp⟩, by simp⟩)
  refine bodyPost_ret (results_cell_row rfl _ _ (w.heap.size + 1 + 1) 68 _ (0, 0) _ rfl HY8.out Tryd.underlying68 rfl Tryd.sizeRpS) rfl ?_
  exact ⟨_, _, _, [], rfl, ⟨HS8.out, by rw [HH.out]; rfl, HE8.out, HP8.out⟩, HB8.out⟩
set_option maxHeartbeats 8000000 in
theorem answer_include_no (S : Src) (ve vl vh vf : Value) (hd fd : List Sg) (id fr ct sz : Int) (w : World) (hX : SrcIn w S ve vl vh vf hd fd) (hs : SrcSmall S) (hc : sizeS S < sz ∨ fr < 0 ∨ sz ≤ fr) :
    Calls Tryd.prog 33 #[.agg (srcC ve vl vh vf), Rq.v ⟨id, 3, fr, ct, sz⟩] w fun e w' => AnsR w (ansRp S ⟨id, 3, fr, ct, sz⟩) e w' := by
  have hE : ansRp S ⟨id, 3, fr, ct, sz⟩ = failRp id 82 := by simp [ansRp, hc]
  rw [hE]
  clear hE
  have F := hid (fun w0 => failed_any id 82 w0)
  have SZ := hid (fun w' (hb : Below w.heap.size w w') => ssize_any S ve vl vh vf hd fd w' (hX.below hb) hs)
  generalize sizeS S = n at *
  clear hX hs
  go_enter Tryd.func33, Tryd.ntmps33
  go_upto_region 1 with fail
  refine wp_world (fun W => SrvW w W 59 (srcC ve vl vh vf) (Rq.cs ⟨id, 3, fr, ct, sz⟩)) (SrvW.new _ _ _ _) ?_
  intro w0 hW
  have HW := hid hW
  have r1 : w0.cell? ⟨w.heap.size + 1, 1, none⟩ = some (.int .i64 3) := Blk.cell hW.r 1
  have CS := hid (fun q : Later w0 => SZ.out (lat q) (bth HW.out.be (lat_below q)))
  clear hW SZ
  go_upto_region 13 with fail
  clear r1
  by_cases c1 : n < sz
  · have e1 : decide (n < sz) = true := by simpa using c1
    clear c1 hc
    refine wp_region_later (by kernel_rfl) (by kernel_rfl) ?_
    repeat (first
      | go_big_quiet_skip
      | (refine wpQuiet_load_one rfl 3 _ rfl ⟨w.heap.size + 1, 0, none⟩ rfl (.int .i64 id) _ (by rintro _ ⟨q, rfl⟩; exact (Blk.cell (HW.out.later (lat_below q)).r 0)) Tryd.underlying3 rfl ?_; simp only [Act.put, List.setIfInBounds_toArray, List.set_cons_succ, List.set_cons_zero])
      | (refine wpQuiet_load_one rfl 3 _ rfl ⟨w.heap.size + 1, 2, none⟩ rfl (.int .i64 fr) _ (by rintro _ ⟨q, rfl⟩; exact (Blk.cell (HW.out.later (lat_below q)).r 2)) Tryd.underlying3 rfl ?_; simp only [Act.put, List.setIfInBounds_toArray, List.set_cons_succ, List.set_cons_zero])
      | (refine wpQuiet_load_one rfl 3 _ rfl ⟨w.heap.size + 1, 3, none⟩ rfl (.int .i64 ct) _ (by rintro _ ⟨q, rfl⟩; exact (Blk.cell (HW.out.later (lat_below q)).r 3)) Tryd.underlying3 rfl ?_; simp only [Act.put, List.setIfInBounds_toArray, List.set_cons_succ, List.set_cons_zero])
      | (refine wpQuiet_load_one rfl 3 _ rfl ⟨w.heap.size + 1, 4, none⟩ rfl (.int .i64 sz) _ (by rintro _ ⟨q, rfl⟩; exact (Blk.cell (HW.out.later (lat_below q)).r 4)) Tryd.underlying3 rfl ?_; simp only [Act.put, List.setIfInBounds_toArray, List.set_cons_succ, List.set_cons_zero])
      | (refine wpQuiet_load_aggG rfl 59 _ rfl ⟨w.heap.size, 0, none⟩ rfl (srcC ve vl vh vf) _ (by rintro _ ⟨q, rfl⟩; exact ((HW.out.later (lat_below q)).s.cells)) Tryd.underlying59 rfl Tryd.sizeSrc ?_; simp only [Act.put, List.setIfInBounds_toArray, List.set_cons_succ, List.set_cons_zero])
      | go_big_quiet_step ((first | (go_at_call 30; with_reducible exact calls_later (CS.out _)))))
    refine wpQuiet_nil ?_
    rintro _ ⟨q3, rfl⟩
    have hb3 := lat_below q3
    generalize lat q3 = w3 at *
    have HW := hid (HW.out.later hb3)
    have r0 : w3.cell? ⟨w.heap.size + 1, 0, none⟩ = some (.int .i64 id) := Blk.cell HW.out.r 0
    clear CS
    go_wp2_with (first
      | (go_at_call 54; refine (F.out _).mono ?_; rintro e w9 ⟨rfl, hb9⟩)
      | ((with_reducible show wpList _ _ _ ({ dst := _, op := Op.store 68 _ _, type := _, pos := _, after := _, guard := _ } :: _) _ _); refine wpList_store_blk rfl 68 _ _ rfl (w.heap.size + 1 + 1) rfl (rpC (failRp id 82) nilS nilS nilS) rfl _ _ (HW.out.y.later hb9) rfl Tryd.sizeRpS (rpC_oneS _ _ _ _ rfl rfl rfl) ?_))
    refine bodyPost_ret (results_cell_row rfl _ _ (w.heap.size + 1 + 1) 68 _ (0, 0) _ rfl ((HW.out.y.later hb9).setRow) Tryd.underlying68 rfl Tryd.sizeRpS) rfl ?_
    exact ⟨_, _, _, [], rfl, failIn _ _ _, (bth HW.out.be hb9).setRow (by omega) _⟩
  · have e1 : decide (n < sz) = false := by simpa using c1
    by_cases c2 : fr < 0
    · have e2 : decide (fr < 0) = true := by simpa using c2
      clear c1 c2 hc
      refine wp_region_later (by kernel_rfl) (by kernel_rfl) ?_
      repeat (first
        | go_big_quiet_skip
        | (refine wpQuiet_load_one rfl 3 _ rfl ⟨w.heap.size + 1, 0, none⟩ rfl (.int .i64 id) _ (by rintro _ ⟨q, rfl⟩; exact (Blk.cell (HW.out.later (lat_below q)).r 0)) Tryd.underlying3 rfl ?_; simp only [Act.put, List.setIfInBounds_toArray, List.set_cons_succ, List.set_cons_zero])
        | (refine wpQuiet_load_one rfl 3 _ rfl ⟨w.heap.size + 1, 2, none⟩ rfl (.int .i64 fr) _ (by rintro _ ⟨q, rfl⟩; exact (Blk.cell (HW.out.later (lat_below q)).r 2)) Tryd.underlying3 rfl ?_; simp only [Act.put, List.setIfInBounds_toArray, List.set_cons_succ, List.set_cons_zero])
        | (refine wpQuiet_load_one rfl 3 _ rfl ⟨w.heap.size + 1, 3, none⟩ rfl (.int .i64 ct) _ (by rintro _ ⟨q, rfl⟩; exact (Blk.cell (HW.out.later (lat_below q)).r 3)) Tryd.underlying3 rfl ?_; simp only [Act.put, List.setIfInBounds_toArray, List.set_cons_succ, List.set_cons_zero])
        | (refine wpQuiet_load_one rfl 3 _ rfl ⟨w.heap.size + 1, 4, none⟩ rfl (.int .i64 sz) _ (by rintro _ ⟨q, rfl⟩; exact (Blk.cell (HW.out.later (lat_below q)).r 4)) Tryd.underlying3 rfl ?_; simp only [Act.put, List.setIfInBounds_toArray, List.set_cons_succ, List.set_cons_zero])
        | (refine wpQuiet_load_aggG rfl 59 _ rfl ⟨w.heap.size, 0, none⟩ rfl (srcC ve vl vh vf) _ (by rintro _ ⟨q, rfl⟩; exact ((HW.out.later (lat_below q)).s.cells)) Tryd.underlying59 rfl Tryd.sizeSrc ?_; simp only [Act.put, List.setIfInBounds_toArray, List.set_cons_succ, List.set_cons_zero])
        | go_big_quiet_step ((first | (go_at_call 30; with_reducible exact calls_later (CS.out _)))))
      refine wpQuiet_nil ?_
      rintro _ ⟨q3, rfl⟩
      have hb3 := lat_below q3
      generalize lat q3 = w3 at *
      have HW := hid (HW.out.later hb3)
      have r0 : w3.cell? ⟨w.heap.size + 1, 0, none⟩ = some (.int .i64 id) := Blk.cell HW.out.r 0
      clear CS
      go_wp2_with (first
        | (go_at_call 54; refine (F.out _).mono ?_; rintro e w9 ⟨rfl, hb9⟩)
        | ((with_reducible show wpList _ _ _ ({ dst := _, op := Op.store 68 _ _, type := _, pos := _, after := _, guard := _ } :: _) _ _); refine wpList_store_blk rfl 68 _ _ rfl (w.heap.size + 1 + 1) rfl (rpC (failRp id 82) nilS nilS nilS) rfl _ _ (HW.out.y.later hb9) rfl Tryd.sizeRpS (rpC_oneS _ _ _ _ rfl rfl rfl) ?_))
      refine bodyPost_ret (results_cell_row rfl _ _ (w.heap.size + 1 + 1) 68 _ (0, 0) _ rfl ((HW.out.y.later hb9).setRow) Tryd.underlying68 rfl Tryd.sizeRpS) rfl ?_
      exact ⟨_, _, _, [], rfl, failIn _ _ _, (bth HW.out.be hb9).setRow (by omega) _⟩
    · have e2 : decide (fr < 0) = false := by simpa using c2
      have e3 : decide (sz ≤ fr) = true := by simp; omega
      clear c1 c2 hc
      refine wp_region_later (by kernel_rfl) (by kernel_rfl) ?_
      repeat (first
        | go_big_quiet_skip
        | (refine wpQuiet_load_one rfl 3 _ rfl ⟨w.heap.size + 1, 0, none⟩ rfl (.int .i64 id) _ (by rintro _ ⟨q, rfl⟩; exact (Blk.cell (HW.out.later (lat_below q)).r 0)) Tryd.underlying3 rfl ?_; simp only [Act.put, List.setIfInBounds_toArray, List.set_cons_succ, List.set_cons_zero])
        | (refine wpQuiet_load_one rfl 3 _ rfl ⟨w.heap.size + 1, 2, none⟩ rfl (.int .i64 fr) _ (by rintro _ ⟨q, rfl⟩; exact (Blk.cell (HW.out.later (lat_below q)).r 2)) Tryd.underlying3 rfl ?_; simp only [Act.put, List.setIfInBounds_toArray, List.set_cons_succ, List.set_cons_zero])
        | (refine wpQuiet_load_one rfl 3 _ rfl ⟨w.heap.size + 1, 3, none⟩ rfl (.int .i64 ct) _ (by rintro _ ⟨q, rfl⟩; exact (Blk.cell (HW.out.later (lat_below q)).r 3)) Tryd.underlying3 rfl ?_; simp only [Act.put, List.setIfInBounds_toArray, List.set_cons_succ, List.set_cons_zero])
        | (refine wpQuiet_load_one rfl 3 _ rfl ⟨w.heap.size + 1, 4, none⟩ rfl (.int .i64 sz) _ (by rintro _ ⟨q, rfl⟩; exact (Blk.cell (HW.out.later (lat_below q)).r 4)) Tryd.underlying3 rfl ?_; simp only [Act.put, List.setIfInBounds_toArray, List.set_cons_succ, List.set_cons_zero])
        | (refine wpQuiet_load_aggG rfl 59 _ rfl ⟨w.heap.size, 0, none⟩ rfl (srcC ve vl vh vf) _ (by rintro _ ⟨q, rfl⟩; exact ((HW.out.later (lat_below q)).s.cells)) Tryd.underlying59 rfl Tryd.sizeSrc ?_; simp only [Act.put, List.setIfInBounds_toArray, List.set_cons_succ, List.set_cons_zero])
        | go_big_quiet_step ((first | (go_at_call 30; with_reducible exact calls_later (CS.out _)))))
      refine wpQuiet_nil ?_
      rintro _ ⟨q3, rfl⟩
      have hb3 := lat_below q3
      generalize lat q3 = w3 at *
      have HW := hid (HW.out.later hb3)
      have r0 : w3.cell? ⟨w.heap.size + 1, 0, none⟩ = some (.int .i64 id) := Blk.cell HW.out.r 0
      clear CS
      go_wp2_with (first
        | (go_at_call 54; refine (F.out _).mono ?_; rintro e w9 ⟨rfl, hb9⟩)
        | ((with_reducible show wpList _ _ _ ({ dst := _, op := Op.store 68 _ _, type := _, pos := _, after := _, guard := _ } :: _) _ _); refine wpList_store_blk rfl 68 _ _ rfl (w.heap.size + 1 + 1) rfl (rpC (failRp id 82) nilS nilS nilS) rfl _ _ (HW.out.y.later hb9) rfl Tryd.sizeRpS (rpC_oneS _ _ _ _ rfl rfl rfl) ?_))
      refine bodyPost_ret (results_cell_row rfl _ _ (w.heap.size + 1 + 1) 68 _ (0, 0) _ rfl ((HW.out.y.later hb9).setRow) Tryd.underlying68 rfl Tryd.sizeRpS) rfl ?_
      exact ⟨_, _, _, [], rfl, failIn _ _ _, (bth HW.out.be hb9).setRow (by omega) _⟩
set_option maxHeartbeats 8000000 in
theorem answer_include_ok (S : Src) (ve vl vh vf : Value) (hd fd : List Sg) (id fr ct sz : Int) (w : World) (hX : SrcIn w S ve vl vh vf hd fd) (hs : SrcSmall S) (hc : ¬ (sizeS S < sz ∨ fr < 0 ∨ sz ≤ fr)) (hG : ShaG w) :
    Calls Tryd.prog 33 #[.agg (srcC ve vl vh vf), Rq.v ⟨id, 3, fr, ct, sz⟩] w fun e w' => AnsR w (ansRp S ⟨id, 3, fr, ct, sz⟩) e w' := by
  have hE : ansRp S ⟨id, 3, fr, ct, sz⟩ = ⟨id, 4, 0, [], [], pathX (S.leaves.take sz.toNat) fr⟩ := by simp [ansRp, hc]
  rw [hE]
  clear hE
  have hsz := sizeS_in S
  have hl1 := hs.l1
  obtain ⟨la, lac, rfl, _⟩ := hX.leaves.formH
  have HX := hid hX; have HS := hid hs; have HG := hid hG
  obtain ⟨f, rfl⟩ : ∃ f : Nat, fr = f := ⟨fr.toNat, by omega⟩
  obtain ⟨n, rfl⟩ : ∃ n : Nat, sz = n := ⟨sz.toNat, by omega⟩
  rw [Int.toNat_natCast]
  have hfn : f < n := by omega
  have hnl : n ≤ S.leaves.length := by omega
  have d3 : decide ((f : Int) < 0) = false := by simp
  have e1 : decide (sizeS S < (n : Int)) = false := by simp; omega
  have e3 : decide (n ≤ f) = false := by simp; omega
  obtain ⟨a2, c2, hr2, hS2⟩ := hX.leaves.takeR 22 29 Tryd.underlying22 Tryd.sizeHash (n : Int) n rfl (by rw [hcs_length]; omega)
  rw [hcs_take] at hS2
  have PP := hid (fun w' (hb : Below w.heap.size w w') => pathNat S.leaves (.slice a2 n c2) f n w' (by omega) hnl hfn (hS2.below hb (Nat.le_refl _)) (HG.out.later hb))
  have SZ := hid (fun w' (hb : Below w.heap.size w w') => ssize_any S ve (.slice la S.leaves.length lac) vh vf hd fd w' (HX.out.below hb) HS.out)
  generalize pathX (S.leaves.take n) (f : Int) = PX at *
  generalize sizeS S = N at *
  have hn80 : n ≤ 80 := by omega
  clear hX hs hS2 hc hG
  go_enter Tryd.func33, Tryd.ntmps33
  go_upto_region 1 with fail
  refine wp_world (fun W => SrvW w W 59 (srcC ve (.slice la S.leaves.length lac) vh vf) (Rq.cs ⟨id, 3, f, ct, n⟩)) (SrvW.new _ _ _ _) ?_
  intro w0 hW
  have HW := hid hW
  have r1 : w0.cell? ⟨w.heap.size + 1, 1, none⟩ = some (.int .i64 3) := Blk.cell hW.r 1
  have CS := hid (fun q : Later w0 => SZ.out (lat q) (bth HW.out.be (lat_below q)))
  clear hW SZ
  go_upto_region 13 with fail
  clear r1
  refine wp_region_later (by kernel_rfl) (by kernel_rfl) ?_
  repeat (first
    | go_big_quiet_skip
    | (refine wpQuiet_load_one rfl 3 _ rfl ⟨w.heap.size + 1, 0, none⟩ rfl (.int .i64 id) _ (by rintro _ ⟨q, rfl⟩; exact (Blk.cell (HW.out.later (lat_below q)).r 0)) Tryd.underlying3 rfl ?_; simp only [Act.put, List.setIfInBounds_toArray, List.set_cons_succ, List.set_cons_zero])
    | (refine wpQuiet_load_one rfl 3 _ rfl ⟨w.heap.size + 1, 2, none⟩ rfl (.int .i64 (f : Int)) _ (by rintro _ ⟨q, rfl⟩; exact (Blk.cell (HW.out.later (lat_below q)).r 2)) Tryd.underlying3 rfl ?_; simp only [Act.put, List.setIfInBounds_toArray, List.set_cons_succ, List.set_cons_zero])
    | (refine wpQuiet_load_one rfl 3 _ rfl ⟨w.heap.size + 1, 3, none⟩ rfl (.int .i64 ct) _ (by rintro _ ⟨q, rfl⟩; exact (Blk.cell (HW.out.later (lat_below q)).r 3)) Tryd.underlying3 rfl ?_; simp only [Act.put, List.setIfInBounds_toArray, List.set_cons_succ, List.set_cons_zero])
    | (refine wpQuiet_load_one rfl 3 _ rfl ⟨w.heap.size + 1, 4, none⟩ rfl (.int .i64 (n : Int)) _ (by rintro _ ⟨q, rfl⟩; exact (Blk.cell (HW.out.later (lat_below q)).r 4)) Tryd.underlying3 rfl ?_; simp only [Act.put, List.setIfInBounds_toArray, List.set_cons_succ, List.set_cons_zero])
    | (refine wpQuiet_load_aggG rfl 59 _ rfl ⟨w.heap.size, 0, none⟩ rfl (srcC ve (.slice la S.leaves.length lac) vh vf) _ (by rintro _ ⟨q, rfl⟩; exact ((HW.out.later (lat_below q)).s.cells)) Tryd.underlying59 rfl Tryd.sizeSrc ?_; simp only [Act.put, List.setIfInBounds_toArray, List.set_cons_succ, List.set_cons_zero])
    | go_big_quiet_step ((first | (go_at_call 30; with_reducible exact calls_later (CS.out _)))))
  refine wpQuiet_nil ?_
  rintro _ ⟨q3, rfl⟩
  have hb3 := lat_below q3
  generalize lat q3 = w3 at *
  have HW := hid (HW.out.later hb3)
  clear CS hb3
  go_upto_region 15 with fail
  refine wp_region_anyC (by kernel_rfl) ?_
  intro x0 he0 hbx0
  have Hc0 := hid hbx0
  clear hbx0 he0
  show wpAnyC _ _ _ _ _ 13 (Array.replicate 13 false) _ _
  refine wpAnyC_take (i := 0) (v := .pointer (some ⟨w.heap.size, 1, none⟩)) rfl (by kernel_rfl) (by kernel_rfl) (by kernel_rfl) (fun _ _ _ h => h) (Or.inl ⟨by kernel_rfl, ?_⟩) ?_
  · intro w _
    go_simp
    try exact IntWalk.i64_in _ (by omega)
    try omega
  (first | dsimp only [List.getElem_toArray, List.getElem_cons_succ, List.getElem_cons_zero] | dsimp (maxSteps := 10000000) only [List.getElem_toArray, List.getElem_cons_succ, List.getElem_cons_zero] | skip); (first | go_frame | simp (maxSteps := 10000000) only [Act.put, List.setIfInBounds_toArray, List.set_cons_succ, List.set_cons_zero] | skip)
  refine wpAnyC_take (i := 1) (v := .slice la S.leaves.length lac) rfl (by kernel_rfl) (by kernel_rfl) (by kernel_rfl) (fun _ _ _ h => h) (YieldsW.load_one (by kernel_rfl) 22 _ rfl ⟨w.heap.size, 1, none⟩ (by kernel_rfl) (.slice la S.leaves.length lac) _ (fun _ hw => Blk.cell (HW.out.later hw).s 1) Tryd.underlying22 rfl) ?_
  (first | dsimp only [List.getElem_toArray, List.getElem_cons_succ, List.getElem_cons_zero] | dsimp (maxSteps := 10000000) only [List.getElem_toArray, List.getElem_cons_succ, List.getElem_cons_zero] | skip); (first | go_frame | simp (maxSteps := 10000000) only [Act.put, List.setIfInBounds_toArray, List.set_cons_succ, List.set_cons_zero] | skip)
  refine wpAnyC_take (i := 2) (v := .pointer (some ⟨w.heap.size + 1, 4, none⟩)) rfl (by kernel_rfl) (by kernel_rfl) (by kernel_rfl) (fun _ _ _ h => h) (Or.inl ⟨by kernel_rfl, ?_⟩) ?_
  · intro w _
    go_simp
    try exact IntWalk.i64_in _ (by omega)
    try omega
  (first | dsimp only [List.getElem_toArray, List.getElem_cons_succ, List.getElem_cons_zero] | dsimp (maxSteps := 10000000) only [List.getElem_toArray, List.getElem_cons_succ, List.getElem_cons_zero] | skip); (first | go_frame | simp (maxSteps := 10000000) only [Act.put, List.setIfInBounds_toArray, List.set_cons_succ, List.set_cons_zero] | skip)
  refine wpAnyC_take (i := 3) (v := .int .i64 (n : Int)) rfl (by kernel_rfl) (by kernel_rfl) (by kernel_rfl) (fun _ _ _ h => h) (YieldsW.load_one (by kernel_rfl) 3 _ rfl ⟨w.heap.size + 1, 4, none⟩ (by kernel_rfl) (.int .i64 (n : Int)) _ (fun _ hw => Blk.cell (HW.out.later hw).r 4) Tryd.underlying3 rfl) ?_
  (first | dsimp only [List.getElem_toArray, List.getElem_cons_succ, List.getElem_cons_zero] | dsimp (maxSteps := 10000000) only [List.getElem_toArray, List.getElem_cons_succ, List.getElem_cons_zero] | skip); (first | go_frame | simp (maxSteps := 10000000) only [Act.put, List.setIfInBounds_toArray, List.set_cons_succ, List.set_cons_zero] | skip)
  refine wpAnyC_take (i := 4) (v := .slice a2 n c2) rfl (by kernel_rfl) (by kernel_rfl) (by kernel_rfl) (fun _ _ _ h => h) (Or.inl ⟨by kernel_rfl, ?_⟩) ?_
  · intro w _
    go_simp
    try exact IntWalk.i64_in _ (by omega)
    try omega
  (first | dsimp only [List.getElem_toArray, List.getElem_cons_succ, List.getElem_cons_zero] | dsimp (maxSteps := 10000000) only [List.getElem_toArray, List.getElem_cons_succ, List.getElem_cons_zero] | skip); (first | go_frame | simp (maxSteps := 10000000) only [Act.put, List.setIfInBounds_toArray, List.set_cons_succ, List.set_cons_zero] | skip)
  refine wpAnyC_take (i := 5) (v := .pointer (some ⟨w.heap.size + 1, 2, none⟩)) rfl (by kernel_rfl) (by kernel_rfl) (by kernel_rfl) (fun _ _ _ h => h) (Or.inl ⟨by kernel_rfl, ?_⟩) ?_
  · intro w _
    go_simp
    try exact IntWalk.i64_in _ (by omega)
    try omega
  (first | dsimp only [List.getElem_toArray, List.getElem_cons_succ, List.getElem_cons_zero] | dsimp (maxSteps := 10000000) only [List.getElem_toArray, List.getElem_cons_succ, List.getElem_cons_zero] | skip); (first | go_frame | simp (maxSteps := 10000000) only [Act.put, List.setIfInBounds_toArray, List.set_cons_succ, List.set_cons_zero] | skip)
  refine wpAnyC_take (i := 6) (v := .int .i64 (f : Int)) rfl (by kernel_rfl) (by kernel_rfl) (by kernel_rfl) (fun _ _ _ h => h) (YieldsW.load_one (by kernel_rfl) 3 _ rfl ⟨w.heap.size + 1, 2, none⟩ (by kernel_rfl) (.int .i64 (f : Int)) _ (fun _ hw => Blk.cell (HW.out.later hw).r 2) Tryd.underlying3 rfl) ?_
  (first | dsimp only [List.getElem_toArray, List.getElem_cons_succ, List.getElem_cons_zero] | dsimp (maxSteps := 10000000) only [List.getElem_toArray, List.getElem_cons_succ, List.getElem_cons_zero] | skip); (first | go_frame | simp (maxSteps := 10000000) only [Act.put, List.setIfInBounds_toArray, List.set_cons_succ, List.set_cons_zero] | skip)
  refine wpAnyC_forced (i := 7) (by kernel_rfl) rfl (Hc0.out) ?_
  (first | dsimp only [List.getElem_toArray, List.getElem_cons_succ, List.getElem_cons_zero] | dsimp (maxSteps := 10000000) only [List.getElem_toArray, List.getElem_cons_succ, List.getElem_cons_zero] | skip); (first | go_frame | simp (maxSteps := 10000000) only [Act.put, List.setIfInBounds_toArray, List.set_cons_succ, List.set_cons_zero] | skip)
  go_wp2_with (go_at_call 56; refine (PP.out _ (bth HW.out.be Hc0.out)).mono ?_; rintro e w5 ⟨⟨p5, rfl, hp5⟩, hb5⟩)
  show wpAnyC _ _ _ _ _ _ _ _ _
  (first | dsimp only [List.getElem_toArray, List.getElem_cons_succ, List.getElem_cons_zero] | dsimp (maxSteps := 10000000) only [List.getElem_toArray, List.getElem_cons_succ, List.getElem_cons_zero] | skip); (first | go_frame | simp (maxSteps := 10000000) only [Act.put, List.setIfInBounds_toArray, List.set_cons_succ, List.set_cons_zero] | skip)
  have Hc5 := hid (bth Hc0.out hb5)
  have HW := hid (HW.out.later Hc5.out)
  clear hb5 Hc0
  obtain ⟨pa, pc, rfl, _⟩ := hp5.formH
  refine wpAnyC_take (i := 8) (v := .tuple #[.slice pa PX.length pc, .int .i64 0]) rfl (by kernel_rfl) (by kernel_rfl) (by kernel_rfl) (fun _ _ _ h => h) (Or.inl ⟨by kernel_rfl, ?_⟩) ?_
  · intro w _
    go_simp
    try exact IntWalk.i64_in _ (by omega)
    try omega
  (first | dsimp only [List.getElem_toArray, List.getElem_cons_succ, List.getElem_cons_zero] | dsimp (maxSteps := 10000000) only [List.getElem_toArray, List.getElem_cons_succ, List.getElem_cons_zero] | skip); (first | go_frame | simp (maxSteps := 10000000) only [Act.put, List.setIfInBounds_toArray, List.set_cons_succ, List.set_cons_zero] | skip)
  refine wpAnyC_take (i := 9) (v := .slice pa PX.length pc) rfl (by kernel_rfl) (by kernel_rfl) (by kernel_rfl) (fun _ _ _ h => h) (Or.inl ⟨by kernel_rfl, ?_⟩) ?_
  · intro w _
    go_simp
    try exact IntWalk.i64_in _ (by omega)
    try omega
  (first | dsimp only [List.getElem_toArray, List.getElem_cons_succ, List.getElem_cons_zero] | dsimp (maxSteps := 10000000) only [List.getElem_toArray, List.getElem_cons_succ, List.getElem_cons_zero] | skip); (first | go_frame | simp (maxSteps := 10000000) only [Act.put, List.setIfInBounds_toArray, List.set_cons_succ, List.set_cons_zero] | skip)
  refine wpAnyC_take (i := 10) (v := .int .i64 0) rfl (by kernel_rfl) (by kernel_rfl) (by kernel_rfl) (fun _ _ _ h => h) (Or.inl ⟨by kernel_rfl, ?_⟩) ?_
  · intro w _
    go_simp
    try exact IntWalk.i64_in _ (by omega)
    try omega
  (first | dsimp only [List.getElem_toArray, List.getElem_cons_succ, List.getElem_cons_zero] | dsimp (maxSteps := 10000000) only [List.getElem_toArray, List.getElem_cons_succ, List.getElem_cons_zero] | skip); (first | go_frame | simp (maxSteps := 10000000) only [Act.put, List.setIfInBounds_toArray, List.set_cons_succ, List.set_cons_zero] | skip)
  refine wpAnyC_take (i := 11) (v := .slice pa PX.length pc) rfl (by kernel_rfl) (by kernel_rfl) (by kernel_rfl) (fun _ _ _ h => h) (Or.inl ⟨by kernel_rfl, ?_⟩) ?_
  · intro w _
    go_simp
    try exact IntWalk.i64_in _ (by omega)
    try omega
  (first | dsimp only [List.getElem_toArray, List.getElem_cons_succ, List.getElem_cons_zero] | dsimp (maxSteps := 10000000) only [List.getElem_toArray, List.getElem_cons_succ, List.getElem_cons_zero] | skip); (first | go_frame | simp (maxSteps := 10000000) only [Act.put, List.setIfInBounds_toArray, List.set_cons_succ, List.set_cons_zero] | skip)
  refine wpAnyC_take (i := 12) (v := .int .i64 0) rfl (by kernel_rfl) (by kernel_rfl) (by kernel_rfl) (fun _ _ _ h => h) (Or.inl ⟨by kernel_rfl, ?_⟩) ?_
  · intro w _
    go_simp
    try exact IntWalk.i64_in _ (by omega)
    try omega
  (first | dsimp only [List.getElem_toArray, List.getElem_cons_succ, List.getElem_cons_zero] | dsimp (maxSteps := 10000000) only [List.getElem_toArray, List.getElem_cons_succ, List.getElem_cons_zero] | skip); (first | go_frame | simp (maxSteps := 10000000) only [Act.put, List.setIfInBounds_toArray, List.set_cons_succ, List.set_cons_zero] | skip)
  refine wpAnyC_done (by kernel_rfl) Hc5.out ?_ _
  (first | dsimp only [List.getElem_toArray, List.getElem_cons_succ, List.getElem_cons_zero] | dsimp (maxSteps := 10000000) only [List.getElem_toArray, List.getElem_cons_succ, List.getElem_cons_zero] | skip); (first | go_frame | simp (maxSteps := 10000000) only [Act.put, List.setIfInBounds_toArray, List.set_cons_succ, List.set_cons_zero] | skip)
  have HP5 := hid hp5
  have r0 : w5.cell? ⟨w.heap.size + 1, 0, none⟩ = some (.int .i64 id) := Blk.cell HW.out.r 0
  clear hp5 PP
  go_wp2_with (first
    | (go_at_call 57; refine (proved_ok id 4 [] PX none pa 0 PX.length 0 pc _).mono ?_; rintro e w9 ⟨rfl, hb9⟩; have HW7 := hid (HW.out.later hb9); have HP7 := hid (HP5.out.below hb9 (Nat.le_refl _)); clear hb9)
    | ((with_reducible show wpList _ _ _ ({ dst := _, op := Op.store 68 _ _, type := _, pos := _, after := _, guard := _ } :: _) _ _); refine wpList_store_blk rfl 68 _ _ rfl (w.heap.size + 1 + 1) rfl (rpC ⟨id, 4, 0, [], [], PX⟩ nilS nilS (.slice pa PX.length pc)) rfl _ _ HW7.out.y rfl Tryd.sizeRpS (rpC_oneS _ _ _ _ rfl rfl rfl) ?_))
  have HY8 := hid (HW7.out.y.setRow (cs' := (rpC ⟨id, 4, 0, [], [], PX⟩ nilS nilS (.slice pa PX.length pc))))
  have HB8 := hid (HW7.out.be.setRow (g := w.heap.size + 1 + 1) (by omega) (rpC ⟨id, 4, 0, [], [], PX⟩ nilS nilS (.slice pa PX.length pc)))
  have HP8 := hid (SlAt.setY (cs := rpC ⟨id, 4, 0, [], [], PX⟩ nilS nilS (.slice pa PX.length pc)) HP7.out HW7.out.y)
  refine bodyPost_ret (results_cell_row rfl _ _ (w.heap.size + 1 + 1) 68 _ (0, 0) _ rfl HY8.out Tryd.underlying68 rfl Tryd.sizeRpS) rfl ?_
  exact ⟨_, _, _, [], rfl, ⟨SgsAt.nil _, rfl, strsNil _, HP8.out⟩, HB8.out⟩
set_option maxHeartbeats 8000000 in
theorem answer_consist_no (S : Src) (ve vl vh vf : Value) (hd fd : List Sg) (id fr ct sz : Int) (w : World) (hX : SrcIn w S ve vl vh vf hd fd) (hs : SrcSmall S) (hc : sizeS S < sz ∨ fr < 0 ∨ sz < fr) :
    Calls Tryd.prog 33 #[.agg (srcC ve vl vh vf), Rq.v ⟨id, 4, fr, ct, sz⟩] w fun e w' => AnsR w (ansRp S ⟨id, 4, fr, ct, sz⟩) e w' := by
  have hE : ansRp S ⟨id, 4, fr, ct, sz⟩ = failRp id 82 := by simp [ansRp, hc]
  rw [hE]
  clear hE
  have F := hid (fun w0 => failed_any id 82 w0)
  have SZ := hid (fun w' (hb : Below w.heap.size w w') => ssize_any S ve vl vh vf hd fd w' (hX.below hb) hs)
  generalize sizeS S = n at *
  clear hX hs
  go_enter Tryd.func33, Tryd.ntmps33
  go_upto_region 1 with fail
  refine wp_world (fun W => SrvW w W 59 (srcC ve vl vh vf) (Rq.cs ⟨id, 4, fr, ct, sz⟩)) (SrvW.new _ _ _ _) ?_
  intro w0 hW
  have HW := hid hW
  have r1 : w0.cell? ⟨w.heap.size + 1, 1, none⟩ = some (.int .i64 4) := Blk.cell hW.r 1
  have CS := hid (fun q : Later w0 => SZ.out (lat q) (bth HW.out.be (lat_below q)))
  clear hW SZ
  go_upto_region 18 with fail
  clear r1
  by_cases c1 : n < sz
  · have e1 : decide (n < sz) = true := by simpa using c1
    clear c1 hc
    refine wp_region_later (by kernel_rfl) (by kernel_rfl) ?_
    repeat (first
      | go_big_quiet_skip
      | (refine wpQuiet_load_one rfl 3 _ rfl ⟨w.heap.size + 1, 0, none⟩ rfl (.int .i64 id) _ (by rintro _ ⟨q, rfl⟩; exact (Blk.cell (HW.out.later (lat_below q)).r 0)) Tryd.underlying3 rfl ?_; simp only [Act.put, List.setIfInBounds_toArray, List.set_cons_succ, List.set_cons_zero])
      | (refine wpQuiet_load_one rfl 3 _ rfl ⟨w.heap.size + 1, 2, none⟩ rfl (.int .i64 fr) _ (by rintro _ ⟨q, rfl⟩; exact (Blk.cell (HW.out.later (lat_below q)).r 2)) Tryd.underlying3 rfl ?_; simp only [Act.put, List.setIfInBounds_toArray, List.set_cons_succ, List.set_cons_zero])
      | (refine wpQuiet_load_one rfl 3 _ rfl ⟨w.heap.size + 1, 3, none⟩ rfl (.int .i64 ct) _ (by rintro _ ⟨q, rfl⟩; exact (Blk.cell (HW.out.later (lat_below q)).r 3)) Tryd.underlying3 rfl ?_; simp only [Act.put, List.setIfInBounds_toArray, List.set_cons_succ, List.set_cons_zero])
      | (refine wpQuiet_load_one rfl 3 _ rfl ⟨w.heap.size + 1, 4, none⟩ rfl (.int .i64 sz) _ (by rintro _ ⟨q, rfl⟩; exact (Blk.cell (HW.out.later (lat_below q)).r 4)) Tryd.underlying3 rfl ?_; simp only [Act.put, List.setIfInBounds_toArray, List.set_cons_succ, List.set_cons_zero])
      | (refine wpQuiet_load_aggG rfl 59 _ rfl ⟨w.heap.size, 0, none⟩ rfl (srcC ve vl vh vf) _ (by rintro _ ⟨q, rfl⟩; exact ((HW.out.later (lat_below q)).s.cells)) Tryd.underlying59 rfl Tryd.sizeSrc ?_; simp only [Act.put, List.setIfInBounds_toArray, List.set_cons_succ, List.set_cons_zero])
      | go_big_quiet_step ((first | (go_at_call 30; with_reducible exact calls_later (CS.out _)))))
    refine wpQuiet_nil ?_
    rintro _ ⟨q3, rfl⟩
    have hb3 := lat_below q3
    generalize lat q3 = w3 at *
    have HW := hid (HW.out.later hb3)
    have r0 : w3.cell? ⟨w.heap.size + 1, 0, none⟩ = some (.int .i64 id) := Blk.cell HW.out.r 0
    clear CS
    go_wp2_with (first
      | (go_at_call 54; refine (F.out _).mono ?_; rintro e w9 ⟨rfl, hb9⟩)
      | ((with_reducible show wpList _ _ _ ({ dst := _, op := Op.store 68 _ _, type := _, pos := _, after := _, guard := _ } :: _) _ _); refine wpList_store_blk rfl 68 _ _ rfl (w.heap.size + 1 + 1) rfl (rpC (failRp id 82) nilS nilS nilS) rfl _ _ (HW.out.y.later hb9) rfl Tryd.sizeRpS (rpC_oneS _ _ _ _ rfl rfl rfl) ?_))
    refine bodyPost_ret (results_cell_row rfl _ _ (w.heap.size + 1 + 1) 68 _ (0, 0) _ rfl ((HW.out.y.later hb9).setRow) Tryd.underlying68 rfl Tryd.sizeRpS) rfl ?_
    exact ⟨_, _, _, [], rfl, failIn _ _ _, (bth HW.out.be hb9).setRow (by omega) _⟩
  · have e1 : decide (n < sz) = false := by simpa using c1
    by_cases c2 : fr < 0
    · have e2 : decide (fr < 0) = true := by simpa using c2
      clear c1 c2 hc
      refine wp_region_later (by kernel_rfl) (by kernel_rfl) ?_
      repeat (first
        | go_big_quiet_skip
        | (refine wpQuiet_load_one rfl 3 _ rfl ⟨w.heap.size + 1, 0, none⟩ rfl (.int .i64 id) _ (by rintro _ ⟨q, rfl⟩; exact (Blk.cell (HW.out.later (lat_below q)).r 0)) Tryd.underlying3 rfl ?_; simp only [Act.put, List.setIfInBounds_toArray, List.set_cons_succ, List.set_cons_zero])
        | (refine wpQuiet_load_one rfl 3 _ rfl ⟨w.heap.size + 1, 2, none⟩ rfl (.int .i64 fr) _ (by rintro _ ⟨q, rfl⟩; exact (Blk.cell (HW.out.later (lat_below q)).r 2)) Tryd.underlying3 rfl ?_; simp only [Act.put, List.setIfInBounds_toArray, List.set_cons_succ, List.set_cons_zero])
        | (refine wpQuiet_load_one rfl 3 _ rfl ⟨w.heap.size + 1, 3, none⟩ rfl (.int .i64 ct) _ (by rintro _ ⟨q, rfl⟩; exact (Blk.cell (HW.out.later (lat_below q)).r 3)) Tryd.underlying3 rfl ?_; simp only [Act.put, List.setIfInBounds_toArray, List.set_cons_succ, List.set_cons_zero])
        | (refine wpQuiet_load_one rfl 3 _ rfl ⟨w.heap.size + 1, 4, none⟩ rfl (.int .i64 sz) _ (by rintro _ ⟨q, rfl⟩; exact (Blk.cell (HW.out.later (lat_below q)).r 4)) Tryd.underlying3 rfl ?_; simp only [Act.put, List.setIfInBounds_toArray, List.set_cons_succ, List.set_cons_zero])
        | (refine wpQuiet_load_aggG rfl 59 _ rfl ⟨w.heap.size, 0, none⟩ rfl (srcC ve vl vh vf) _ (by rintro _ ⟨q, rfl⟩; exact ((HW.out.later (lat_below q)).s.cells)) Tryd.underlying59 rfl Tryd.sizeSrc ?_; simp only [Act.put, List.setIfInBounds_toArray, List.set_cons_succ, List.set_cons_zero])
        | go_big_quiet_step ((first | (go_at_call 30; with_reducible exact calls_later (CS.out _)))))
      refine wpQuiet_nil ?_
      rintro _ ⟨q3, rfl⟩
      have hb3 := lat_below q3
      generalize lat q3 = w3 at *
      have HW := hid (HW.out.later hb3)
      have r0 : w3.cell? ⟨w.heap.size + 1, 0, none⟩ = some (.int .i64 id) := Blk.cell HW.out.r 0
      clear CS
      go_wp2_with (first
        | (go_at_call 54; refine (F.out _).mono ?_; rintro e w9 ⟨rfl, hb9⟩)
        | ((with_reducible show wpList _ _ _ ({ dst := _, op := Op.store 68 _ _, type := _, pos := _, after := _, guard := _ } :: _) _ _); refine wpList_store_blk rfl 68 _ _ rfl (w.heap.size + 1 + 1) rfl (rpC (failRp id 82) nilS nilS nilS) rfl _ _ (HW.out.y.later hb9) rfl Tryd.sizeRpS (rpC_oneS _ _ _ _ rfl rfl rfl) ?_))
      refine bodyPost_ret (results_cell_row rfl _ _ (w.heap.size + 1 + 1) 68 _ (0, 0) _ rfl ((HW.out.y.later hb9).setRow) Tryd.underlying68 rfl Tryd.sizeRpS) rfl ?_
      exact ⟨_, _, _, [], rfl, failIn _ _ _, (bth HW.out.be hb9).setRow (by omega) _⟩
    · have e2 : decide (fr < 0) = false := by simpa using c2
      have e3 : decide (sz < fr) = true := by simp; omega
      clear c1 c2 hc
      refine wp_region_later (by kernel_rfl) (by kernel_rfl) ?_
      repeat (first
        | go_big_quiet_skip
        | (refine wpQuiet_load_one rfl 3 _ rfl ⟨w.heap.size + 1, 0, none⟩ rfl (.int .i64 id) _ (by rintro _ ⟨q, rfl⟩; exact (Blk.cell (HW.out.later (lat_below q)).r 0)) Tryd.underlying3 rfl ?_; simp only [Act.put, List.setIfInBounds_toArray, List.set_cons_succ, List.set_cons_zero])
        | (refine wpQuiet_load_one rfl 3 _ rfl ⟨w.heap.size + 1, 2, none⟩ rfl (.int .i64 fr) _ (by rintro _ ⟨q, rfl⟩; exact (Blk.cell (HW.out.later (lat_below q)).r 2)) Tryd.underlying3 rfl ?_; simp only [Act.put, List.setIfInBounds_toArray, List.set_cons_succ, List.set_cons_zero])
        | (refine wpQuiet_load_one rfl 3 _ rfl ⟨w.heap.size + 1, 3, none⟩ rfl (.int .i64 ct) _ (by rintro _ ⟨q, rfl⟩; exact (Blk.cell (HW.out.later (lat_below q)).r 3)) Tryd.underlying3 rfl ?_; simp only [Act.put, List.setIfInBounds_toArray, List.set_cons_succ, List.set_cons_zero])
        | (refine wpQuiet_load_one rfl 3 _ rfl ⟨w.heap.size + 1, 4, none⟩ rfl (.int .i64 sz) _ (by rintro _ ⟨q, rfl⟩; exact (Blk.cell (HW.out.later (lat_below q)).r 4)) Tryd.underlying3 rfl ?_; simp only [Act.put, List.setIfInBounds_toArray, List.set_cons_succ, List.set_cons_zero])
        | (refine wpQuiet_load_aggG rfl 59 _ rfl ⟨w.heap.size, 0, none⟩ rfl (srcC ve vl vh vf) _ (by rintro _ ⟨q, rfl⟩; exact ((HW.out.later (lat_below q)).s.cells)) Tryd.underlying59 rfl Tryd.sizeSrc ?_; simp only [Act.put, List.setIfInBounds_toArray, List.set_cons_succ, List.set_cons_zero])
        | go_big_quiet_step ((first | (go_at_call 30; with_reducible exact calls_later (CS.out _)))))
      refine wpQuiet_nil ?_
      rintro _ ⟨q3, rfl⟩
      have hb3 := lat_below q3
      generalize lat q3 = w3 at *
      have HW := hid (HW.out.later hb3)
      have r0 : w3.cell? ⟨w.heap.size + 1, 0, none⟩ = some (.int .i64 id) := Blk.cell HW.out.r 0
      clear CS
      go_wp2_with (first
        | (go_at_call 54; refine (F.out _).mono ?_; rintro e w9 ⟨rfl, hb9⟩)
        | ((with_reducible show wpList _ _ _ ({ dst := _, op := Op.store 68 _ _, type := _, pos := _, after := _, guard := _ } :: _) _ _); refine wpList_store_blk rfl 68 _ _ rfl (w.heap.size + 1 + 1) rfl (rpC (failRp id 82) nilS nilS nilS) rfl _ _ (HW.out.y.later hb9) rfl Tryd.sizeRpS (rpC_oneS _ _ _ _ rfl rfl rfl) ?_))
      refine bodyPost_ret (results_cell_row rfl _ _ (w.heap.size + 1 + 1) 68 _ (0, 0) _ rfl ((HW.out.y.later hb9).setRow) Tryd.underlying68 rfl Tryd.sizeRpS) rfl ?_
      exact ⟨_, _, _, [], rfl, failIn _ _ _, (bth HW.out.be hb9).setRow (by omega) _⟩
set_option maxHeartbeats 8000000 in
theorem answer_consist_ok (S : Src) (ve vl vh vf : Value) (hd fd : List Sg) (id fr ct sz : Int) (w : World) (hX : SrcIn w S ve vl vh vf hd fd) (hs : SrcSmall S) (hc : ¬ (sizeS S < sz ∨ fr < 0 ∨ sz < fr)) (hG : ShaG w) :
    Calls Tryd.prog 33 #[.agg (srcC ve vl vh vf), Rq.v ⟨id, 4, fr, ct, sz⟩] w fun e w' => AnsR w (ansRp S ⟨id, 4, fr, ct, sz⟩) e w' := by
  have hE : ansRp S ⟨id, 4, fr, ct, sz⟩ = ⟨id, 4, 0, [], [], rprX (S.leaves.take sz.toNat) fr⟩ := by simp [ansRp, hc]
  rw [hE]
  clear hE
  have hsz := sizeS_in S
  have hl1 := hs.l1
  obtain ⟨la, lac, rfl, _⟩ := hX.leaves.formH
  have HX := hid hX; have HS := hid hs; have HG := hid hG
  obtain ⟨f, rfl⟩ : ∃ f : Nat, fr = f := ⟨fr.toNat, by omega⟩
  obtain ⟨n, rfl⟩ : ∃ n : Nat, sz = n := ⟨sz.toNat, by omega⟩
  rw [Int.toNat_natCast]
  have hfn : f ≤ n := by omega
  have hnl : n ≤ S.leaves.length := by omega
  have d3 : decide ((f : Int) < 0) = false := by simp
  have e1 : decide (sizeS S < (n : Int)) = false := by simp; omega
  have e3 : decide (n < f) = false := by simp; omega
  obtain ⟨a2, c2, hr2, hS2⟩ := hX.leaves.takeR 22 29 Tryd.underlying22 Tryd.sizeHash (n : Int) n rfl (by rw [hcs_length]; omega)
  rw [hcs_take] at hS2
  have PP := hid (fun w' (hb : Below w.heap.size w w') => proofNat S.leaves (.slice a2 n c2) f n w' (by omega) hnl hfn (hS2.below hb (Nat.le_refl _)) (HG.out.later hb))
  have SZ := hid (fun w' (hb : Below w.heap.size w w') => ssize_any S ve (.slice la S.leaves.length lac) vh vf hd fd w' (HX.out.below hb) HS.out)
  generalize rprX (S.leaves.take n) (f : Int) = PX at *
  generalize sizeS S = N at *
  have hn80 : n ≤ 80 := by omega
  clear hX hs hS2 hc hG
  go_enter Tryd.func33, Tryd.ntmps33
  go_upto_region 1 with fail
  refine wp_world (fun W => SrvW w W 59 (srcC ve (.slice la S.leaves.length lac) vh vf) (Rq.cs ⟨id, 4, f, ct, n⟩)) (SrvW.new _ _ _ _) ?_
  intro w0 hW
  have HW := hid hW
  have r1 : w0.cell? ⟨w.heap.size + 1, 1, none⟩ = some (.int .i64 4) := Blk.cell hW.r 1
  have CS := hid (fun q : Later w0 => SZ.out (lat q) (bth HW.out.be (lat_below q)))
  clear hW SZ
  go_upto_region 18 with fail
  clear r1
  refine wp_region_later (by kernel_rfl) (by kernel_rfl) ?_
  repeat (first
    | go_big_quiet_skip
    | (refine wpQuiet_load_one rfl 3 _ rfl ⟨w.heap.size + 1, 0, none⟩ rfl (.int .i64 id) _ (by rintro _ ⟨q, rfl⟩; exact (Blk.cell (HW.out.later (lat_below q)).r 0)) Tryd.underlying3 rfl ?_; simp only [Act.put, List.setIfInBounds_toArray, List.set_cons_succ, List.set_cons_zero])
    | (refine wpQuiet_load_one rfl 3 _ rfl ⟨w.heap.size + 1, 2, none⟩ rfl (.int .i64 (f : Int)) _ (by rintro _ ⟨q, rfl⟩; exact (Blk.cell (HW.out.later (lat_below q)).r 2)) Tryd.underlying3 rfl ?_; simp only [Act.put, List.setIfInBounds_toArray, List.set_cons_succ, List.set_cons_zero])
    | (refine wpQuiet_load_one rfl 3 _ rfl ⟨w.heap.size + 1, 3, none⟩ rfl (.int .i64 ct) _ (by rintro _ ⟨q, rfl⟩; exact (Blk.cell (HW.out.later (lat_below q)).r 3)) Tryd.underlying3 rfl ?_; simp only [Act.put, List.setIfInBounds_toArray, List.set_cons_succ, List.set_cons_zero])
    | (refine wpQuiet_load_one rfl 3 _ rfl ⟨w.heap.size + 1, 4, none⟩ rfl (.int .i64 (n : Int)) _ (by rintro _ ⟨q, rfl⟩; exact (Blk.cell (HW.out.later (lat_below q)).r 4)) Tryd.underlying3 rfl ?_; simp only [Act.put, List.setIfInBounds_toArray, List.set_cons_succ, List.set_cons_zero])
    | (refine wpQuiet_load_aggG rfl 59 _ rfl ⟨w.heap.size, 0, none⟩ rfl (srcC ve (.slice la S.leaves.length lac) vh vf) _ (by rintro _ ⟨q, rfl⟩; exact ((HW.out.later (lat_below q)).s.cells)) Tryd.underlying59 rfl Tryd.sizeSrc ?_; simp only [Act.put, List.setIfInBounds_toArray, List.set_cons_succ, List.set_cons_zero])
    | go_big_quiet_step ((first | (go_at_call 30; with_reducible exact calls_later (CS.out _)))))
  refine wpQuiet_nil ?_
  rintro _ ⟨q3, rfl⟩
  have hb3 := lat_below q3
  generalize lat q3 = w3 at *
  have HW := hid (HW.out.later hb3)
  clear CS hb3
  go_upto_region 20 with fail
  refine wp_region_anyC (by kernel_rfl) ?_
  intro x0 he0 hbx0
  have Hc0 := hid hbx0
  clear hbx0 he0
  show wpAnyC _ _ _ _ _ 13 (Array.replicate 13 false) _ _
  refine wpAnyC_take (i := 0) (v := .pointer (some ⟨w.heap.size, 1, none⟩)) rfl (by kernel_rfl) (by kernel_rfl) (by kernel_rfl) (fun _ _ _ h => h) (Or.inl ⟨by kernel_rfl, ?_⟩) ?_
  · intro w _
    go_simp
    try exact IntWalk.i64_in _ (by omega)
    try omega
  (first | dsimp only [List.getElem_toArray, List.getElem_cons_succ, List.getElem_cons_zero] | dsimp (maxSteps := 10000000) only [List.getElem_toArray, List.getElem_cons_succ, List.getElem_cons_zero] | skip); (first | go_frame | simp (maxSteps := 10000000) only [Act.put, List.setIfInBounds_toArray, List.set_cons_succ, List.set_cons_zero] | skip)
  refine wpAnyC_take (i := 1) (v := .slice la S.leaves.length lac) rfl (by kernel_rfl) (by kernel_rfl) (by kernel_rfl) (fun _ _ _ h => h) (YieldsW.load_one (by kernel_rfl) 22 _ rfl ⟨w.heap.size, 1, none⟩ (by kernel_rfl) (.slice la S.leaves.length lac) _ (fun _ hw => Blk.cell (HW.out.later hw).s 1) Tryd.underlying22 rfl) ?_
  (first | dsimp only [List.getElem_toArray, List.getElem_cons_succ, List.getElem_cons_zero] | dsimp (maxSteps := 10000000) only [List.getElem_toArray, List.getElem_cons_succ, List.getElem_cons_zero] | skip); (first | go_frame | simp (maxSteps := 10000000) only [Act.put, List.setIfInBounds_toArray, List.set_cons_succ, List.set_cons_zero] | skip)
  refine wpAnyC_take (i := 2) (v := .pointer (some ⟨w.heap.size + 1, 4, none⟩)) rfl (by kernel_rfl) (by kernel_rfl) (by kernel_rfl) (fun _ _ _ h => h) (Or.inl ⟨by kernel_rfl, ?_⟩) ?_
  · intro w _
    go_simp
    try exact IntWalk.i64_in _ (by omega)
    try omega
  (first | dsimp only [List.getElem_toArray, List.getElem_cons_succ, List.getElem_cons_zero] | dsimp (maxSteps := 10000000) only [List.getElem_toArray, List.getElem_cons_succ, List.getElem_cons_zero] | skip); (first | go_frame | simp (maxSteps := 10000000) only [Act.put, List.setIfInBounds_toArray, List.set_cons_succ, List.set_cons_zero] | skip)
  refine wpAnyC_take (i := 3) (v := .int .i64 (n : Int)) rfl (by kernel_rfl) (by kernel_rfl) (by kernel_rfl) (fun _ _ _ h => h) (YieldsW.load_one (by kernel_rfl) 3 _ rfl ⟨w.heap.size + 1, 4, none⟩ (by kernel_rfl) (.int .i64 (n : Int)) _ (fun _ hw => Blk.cell (HW.out.later hw).r 4) Tryd.underlying3 rfl) ?_
  (first | dsimp only [List.getElem_toArray, List.getElem_cons_succ, List.getElem_cons_zero] | dsimp (maxSteps := 10000000) only [List.getElem_toArray, List.getElem_cons_succ, List.getElem_cons_zero] | skip); (first | go_frame | simp (maxSteps := 10000000) only [Act.put, List.setIfInBounds_toArray, List.set_cons_succ, List.set_cons_zero] | skip)
  refine wpAnyC_take (i := 4) (v := .slice a2 n c2) rfl (by kernel_rfl) (by kernel_rfl) (by kernel_rfl) (fun _ _ _ h => h) (Or.inl ⟨by kernel_rfl, ?_⟩) ?_
  · intro w _
    go_simp
    try exact IntWalk.i64_in _ (by omega)
    try omega
  (first | dsimp only [List.getElem_toArray, List.getElem_cons_succ, List.getElem_cons_zero] | dsimp (maxSteps := 10000000) only [List.getElem_toArray, List.getElem_cons_succ, List.getElem_cons_zero] | skip); (first | go_frame | simp (maxSteps := 10000000) only [Act.put, List.setIfInBounds_toArray, List.set_cons_succ, List.set_cons_zero] | skip)
  refine wpAnyC_take (i := 5) (v := .pointer (some ⟨w.heap.size + 1, 2, none⟩)) rfl (by kernel_rfl) (by kernel_rfl) (by kernel_rfl) (fun _ _ _ h => h) (Or.inl ⟨by kernel_rfl, ?_⟩) ?_
  · intro w _
    go_simp
    try exact IntWalk.i64_in _ (by omega)
    try omega
  (first | dsimp only [List.getElem_toArray, List.getElem_cons_succ, List.getElem_cons_zero] | dsimp (maxSteps := 10000000) only [List.getElem_toArray, List.getElem_cons_succ, List.getElem_cons_zero] | skip); (first | go_frame | simp (maxSteps := 10000000) only [Act.put, List.setIfInBounds_toArray, List.set_cons_succ, List.set_cons_zero] | skip)
  refine wpAnyC_take (i := 6) (v := .int .i64 (f : Int)) rfl (by kernel_rfl) (by kernel_rfl) (by kernel_rfl) (fun _ _ _ h => h) (YieldsW.load_one (by kernel_rfl) 3 _ rfl ⟨w.heap.size + 1, 2, none⟩ (by kernel_rfl) (.int .i64 (f : Int)) _ (fun _ hw => Blk.cell (HW.out.later hw).r 2) Tryd.underlying3 rfl) ?_
  (first | dsimp only [List.getElem_toArray, List.getElem_cons_succ, List.getElem_cons_zero] | dsimp (maxSteps := 10000000) only [List.getElem_toArray, List.getElem_cons_succ, List.getElem_cons_zero] | skip); (first | go_frame | simp (maxSteps := 10000000) only [Act.put, List.setIfInBounds_toArray, List.set_cons_succ, List.set_cons_zero] | skip)
  refine wpAnyC_forced (i := 7) (by kernel_rfl) rfl (Hc0.out) ?_
  (first | dsimp only [List.getElem_toArray, List.getElem_cons_succ, List.getElem_cons_zero] | dsimp (maxSteps := 10000000) only [List.getElem_toArray, List.getElem_cons_succ, List.getElem_cons_zero] | skip); (first | go_frame | simp (maxSteps := 10000000) only [Act.put, List.setIfInBounds_toArray, List.set_cons_succ, List.set_cons_zero] | skip)
  go_wp2_with (go_at_call 58; refine (PP.out _ (bth HW.out.be Hc0.out)).mono ?_; rintro e w5 ⟨⟨p5, rfl, hp5⟩, hb5⟩)
  show wpAnyC _ _ _ _ _ _ _ _ _
  (first | dsimp only [List.getElem_toArray, List.getElem_cons_succ, List.getElem_cons_zero] | dsimp (maxSteps := 10000000) only [List.getElem_toArray, List.getElem_cons_succ, List.getElem_cons_zero] | skip); (first | go_frame | simp (maxSteps := 10000000) only [Act.put, List.setIfInBounds_toArray, List.set_cons_succ, List.set_cons_zero] | skip)
  have Hc5 := hid (bth Hc0.out hb5)
  have HW := hid (HW.out.later Hc5.out)
  clear hb5 Hc0
  obtain ⟨pa, pc, rfl, _⟩ := hp5.formH
  refine wpAnyC_take (i := 8) (v := .tuple #[.slice pa PX.length pc, .int .i64 0]) rfl (by kernel_rfl) (by kernel_rfl) (by kernel_rfl) (fun _ _ _ h => h) (Or.inl ⟨by kernel_rfl, ?_⟩) ?_
  · intro w _
    go_simp
    try exact IntWalk.i64_in _ (by omega)
    try omega
  (first | dsimp only [List.getElem_toArray, List.getElem_cons_succ, List.getElem_cons_zero] | dsimp (maxSteps := 10000000) only [List.getElem_toArray, List.getElem_cons_succ, List.getElem_cons_zero] | skip); (first | go_frame | simp (maxSteps := 10000000) only [Act.put, List.setIfInBounds_toArray, List.set_cons_succ, List.set_cons_zero] | skip)
  refine wpAnyC_take (i := 9) (v := .slice pa PX.length pc) rfl (by kernel_rfl) (by kernel_rfl) (by kernel_rfl) (fun _ _ _ h => h) (Or.inl ⟨by kernel_rfl, ?_⟩) ?_
  · intro w _
    go_simp
    try exact IntWalk.i64_in _ (by omega)
    try omega
  (first | dsimp only [List.getElem_toArray, List.getElem_cons_succ, List.getElem_cons_zero] | dsimp (maxSteps := 10000000) only [List.getElem_toArray, List.getElem_cons_succ, List.getElem_cons_zero] | skip); (first | go_frame | simp (maxSteps := 10000000) only [Act.put, List.setIfInBounds_toArray, List.set_cons_succ, List.set_cons_zero] | skip)
  refine wpAnyC_take (i := 10) (v := .int .i64 0) rfl (by kernel_rfl) (by kernel_rfl) (by kernel_rfl) (fun _ _ _ h => h) (Or.inl ⟨by kernel_rfl, ?_⟩) ?_
  · intro w _
    go_simp
    try exact IntWalk.i64_in _ (by omega)
    try omega
  (first | dsimp only [List.getElem_toArray, List.getElem_cons_succ, List.getElem_cons_zero] | dsimp (maxSteps := 10000000) only [List.getElem_toArray, List.getElem_cons_succ, List.getElem_cons_zero] | skip); (first | go_frame | simp (maxSteps := 10000000) only [Act.put, List.setIfInBounds_toArray, List.set_cons_succ, List.set_cons_zero] | skip)
  refine wpAnyC_take (i := 11) (v := .slice pa PX.length pc) rfl (by kernel_rfl) (by kernel_rfl) (by kernel_rfl) (fun _ _ _ h => h) (Or.inl ⟨by kernel_rfl, ?_⟩) ?_
  · intro w _
    go_simp
    try exact IntWalk.i64_in _ (by omega)
    try omega
  (first | dsimp only [List.getElem_toArray, List.getElem_cons_succ, List.getElem_cons_zero] | dsimp (maxSteps := 10000000) only [List.getElem_toArray, List.getElem_cons_succ, List.getElem_cons_zero] | skip); (first | go_frame | simp (maxSteps := 10000000) only [Act.put, List.setIfInBounds_toArray, List.set_cons_succ, List.set_cons_zero] | skip)
  refine wpAnyC_take (i := 12) (v := .int .i64 0) rfl (by kernel_rfl) (by kernel_rfl) (by kernel_rfl) (fun _ _ _ h => h) (Or.inl ⟨by kernel_rfl, ?_⟩) ?_
  · intro w _
    go_simp
    try exact IntWalk.i64_in _ (by omega)
    try omega
  (first | dsimp only [List.getElem_toArray, List.getElem_cons_succ, List.getElem_cons_zero] | dsimp (maxSteps := 10000000) only [List.getElem_toArray, List.getElem_cons_succ, List.getElem_cons_zero] | skip); (first | go_frame | simp (maxSteps := 10000000) only [Act.put, List.setIfInBounds_toArray, List.set_cons_succ, List.set_cons_zero] | skip)
  refine wpAnyC_done (by kernel_rfl) Hc5.out ?_ _
  (first | dsimp only [List.getElem_toArray, List.getElem_cons_succ, List.getElem_cons_zero] | dsimp (maxSteps := 10000000) only [List.getElem_toArray, List.getElem_cons_succ, List.getElem_cons_zero] | skip); (first | go_frame | simp (maxSteps := 10000000) only [Act.put, List.setIfInBounds_toArray, List.set_cons_succ, List.set_cons_zero] | skip)
  have HP5 := hid hp5
  have r0 : w5.cell? ⟨w.heap.size + 1, 0, none⟩ = some (.int .i64 id) := Blk.cell HW.out.r 0
  clear hp5 PP
  go_wp2_with (first
    | (go_at_call 57; refine (proved_ok id 4 [] PX none pa 0 PX.length 0 pc _).mono ?_; rintro e w9 ⟨rfl, hb9⟩; have HW7 := hid (HW.out.later hb9); have HP7 := hid (HP5.out.below hb9 (Nat.le_refl _)); clear hb9)
    | ((with_reducible show wpList _ _ _ ({ dst := _, op := Op.store 68 _ _, type := _, pos := _, after := _, guard := _ } :: _) _ _); refine wpList_store_blk rfl 68 _ _ rfl (w.heap.size + 1 + 1) rfl (rpC ⟨id, 4, 0, [], [], PX⟩ nilS nilS (.slice pa PX.length pc)) rfl _ _ HW7.out.y rfl Tryd.sizeRpS (rpC_oneS _ _ _ _ rfl rfl rfl) ?_))
  have HY8 := hid (HW7.out.y.setRow (cs' := (rpC ⟨id, 4, 0, [], [], PX⟩ nilS nilS (.slice pa PX.length pc))))
  have HB8 := hid (HW7.out.be.setRow (g := w.heap.size + 1 + 1) (by omega) (rpC ⟨id, 4, 0, [], [], PX⟩ nilS nilS (.slice pa PX.length pc)))
  have HP8 := hid (SlAt.setY (cs := rpC ⟨id, 4, 0, [], [], PX⟩ nilS nilS (.slice pa PX.length pc)) HP7.out HW7.out.y)
  refine bodyPost_ret (results_cell_row rfl _ _ (w.heap.size + 1 + 1) 68 _ (0, 0) _ rfl HY8.out Tryd.underlying68 rfl Tryd.sizeRpS) rfl ?_
  exact ⟨_, _, _, [], rfl, ⟨SgsAt.nil _, rfl, strsNil _, HP8.out⟩, HB8.out⟩
set_option maxHeartbeats 4000000 in
theorem answer_none (S : Src) (ve vl vh vf : Value) (id kd fr ct sz : Int) (w : World) (hk : ¬ (1 ≤ kd ∧ kd ≤ 5)) :
    Calls Tryd.prog 33 #[.agg (srcC ve vl vh vf), Rq.v ⟨id, kd, fr, ct, sz⟩] w fun e w' => AnsR w (ansRp S ⟨id, kd, fr, ct, sz⟩) e w' := by
  have k1 : ¬ kd = 1 := by omega
  have k2 : ¬ kd = 2 := by omega
  have k3 : ¬ kd = 3 := by omega
  have k4 : ¬ kd = 4 := by omega
  have k5 : ¬ kd = 5 := by omega
  have hE : ansRp S ⟨id, kd, fr, ct, sz⟩ = failRp id 2 := by simp [ansRp, k1, k2, k3, k4, k5]
  rw [hE]
  have F := hid (fun w0 => failed_any id 2 w0)
  have e1 : (kd == 1) = false := by simpa using k1
  have e2 : (kd == 2) = false := by simpa using k2
  have e3 : (kd == 3) = false := by simpa using k3
  have e4 : (kd == 4) = false := by simpa using k4
  have e5 : (kd == 5) = false := by simpa using k5
  clear hE hk k1 k2 k3 k4 k5
  go_enter Tryd.func33, Tryd.ntmps33
  go_upto_region 1 with fail
  refine wp_world (fun W => SrvW w W 59 (srcC ve vl vh vf) (Rq.cs ⟨id, kd, fr, ct, sz⟩)) (SrvW.new _ _ _ _) ?_
  intro w0 hW
  have HW := hid hW
  have r0 : w0.cell? ⟨w.heap.size + 1, 0, none⟩ = some (.int .i64 id) := Blk.cell hW.r 0
  have r1 : w0.cell? ⟨w.heap.size + 1, 1, none⟩ = some (.int .i64 kd) := Blk.cell hW.r 1
  clear hW
  go_wp2_with (first
    | (go_at_call 54; refine (F.out _).mono ?_; rintro e w9 ⟨rfl, hb9⟩)
    | ((with_reducible show wpList _ _ _ ({ dst := _, op := Op.store 68 _ _, type := _, pos := _, after := _, guard := _ } :: _) _ _); refine wpList_store_blk rfl 68 _ _ rfl (w.heap.size + 1 + 1) rfl (rpC (failRp id 2) nilS nilS nilS) rfl _ _ (HW.out.y.later hb9) rfl Tryd.sizeRpS (rpC_oneS _ _ _ _ rfl rfl rfl) ?_))
  refine bodyPost_ret (results_cell_row rfl _ _ (w.heap.size + 1 + 1) 68 _ (0, 0) _ rfl ((HW.out.y.later hb9).setRow) Tryd.underlying68 rfl Tryd.sizeRpS) rfl ?_
  exact ⟨_, _, _, [], rfl, failIn _ _ _, (bth HW.out.be hb9).setRow (by omega) _⟩
theorem answer_any (S : Src) (ve vl vh vf : Value) (hd fd : List Sg) (r : Rq) (w : World) (hX : SrcIn w S ve vl vh vf hd fd) (hs : SrcSmall S) (hi : RqI r) (hG : ShaG w) :
    Calls Tryd.prog 33 #[.agg (srcC ve vl vh vf), r.v] w fun e w' => AnsR w (ansRp S r) e w' := by
  obtain ⟨id, kd, fr, ct, sz⟩ := r
  by_cases hk : 1 ≤ kd ∧ kd ≤ 5
  · rcases (by omega : kd = 1 ∨ kd = 2 ∨ kd = 3 ∨ kd = 4 ∨ kd = 5) with rfl | rfl | rfl | rfl | rfl
    · obtain ⟨ha, hac, rfl, _⟩ := hX.head.form
      by_cases h : S.head.length = 1
      · exact answer_head_ok S ve vl vf ha hac hd fd id fr ct sz w hX hs h
      · exact answer_head_no S ve vl vf ha hac hd fd id fr ct sz w hX hs h
    · exact answer_entries S ve vl vh vf hd fd id fr ct sz w hX hs hi hG
    · by_cases h : sizeS S < sz ∨ fr < 0 ∨ sz ≤ fr
      · exact answer_include_no S ve vl vh vf hd fd id fr ct sz w hX hs h
      · exact answer_include_ok S ve vl vh vf hd fd id fr ct sz w hX hs h hG
    · by_cases h : sizeS S < sz ∨ fr < 0 ∨ sz < fr
      · exact answer_consist_no S ve vl vh vf hd fd id fr ct sz w hX hs h
      · exact answer_consist_ok S ve vl vh vf hd fd id fr ct sz w hX hs h hG
    · obtain ⟨ha, hac, rfl, _⟩ := hX.fork.form
      by_cases h : S.fork.length = 2
      · exact answer_fork_ok S ve vl vh ha hac hd fd id fr ct sz w hX hs h
      · exact answer_fork_no S ve vl vh ha hac hd fd id fr ct sz w hX hs h
  · exact answer_none S ve vl vh vf id kd fr ct sz w hk
end Go.Proofs.YtbpjlancjdbehaaDoor
