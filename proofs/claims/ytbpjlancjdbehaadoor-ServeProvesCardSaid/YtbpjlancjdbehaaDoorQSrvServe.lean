/- serve.Serve -/
import Derived.Test.YtbpjlancjdbehaaDoorQMsgSigned
import Derived.Test.YtbpjlancjdbehaaDoorQRqGet
import Derived.Test.YtbpjlancjdbehaaDoorQSrvAnswer

set_option maxRecDepth 100000
namespace Go.Proofs.YtbpjlancjdbehaaDoor
open Go.RowKit Go.Spec
theorem SgsAt.setY {W : World} {g : Nat} {v : Value} {ds : List Sg} {x : RpK} {t : TypeId} {cs : Array Value} (h : SgsAt W v ds) (hy : Blk W g (rpC x nilS nilS nilS) t) : SgsAt (W.setRow g cs) v ds := by
  refine ⟨?_, fun d hd => ⟨(h.ok d hd).r32, SlAt.setY (h.ok d hd).at_ hy, (h.ok d hd).sl, (h.ok d hd).pl⟩⟩
  obtain ⟨a, cap, hv, hc, hs', hr⟩ := h.at_
  refine ⟨a, cap, hv, hc, hs', fun i c hi => ?_⟩
  obtain ⟨k, o, ha, hlt, hcell⟩ := hr i c hi
  have hi' : i < ds.length := by
    have := (List.getElem?_eq_some_iff.1 hi).1
    simpa using this
  have he : c = ds[i].L := by
    simp only [List.getElem?_map, List.getElem?_eq_getElem hi', Option.map_some] at hi
    injection hi with hi
    exact hi.symm
  subst he
  have h32 := (h.ok _ (List.getElem_mem hi')).r32
  have h0 : ds[i].L[1]? = some (bcell (ds[i].root[0]'(by omega))) := by
    unfold Sg.L sgA
    rw [List.toList_toArray, List.getElem?_cons_succ, List.getElem?_append_left (by rw [List.length_map]; omega), List.getElem?_map, List.getElem?_eq_getElem (by omega)]; rfl
  have n1 := rp_far hy (hcell 1 _ h0)
  refine ⟨k, o, ha, by rw [setRow_size']; exact hlt, fun j u hj => ?_⟩
  have := hcell j u hj
  unfold World.cell? at this ⊢
  rw [setRow_ne n1]; exact this
theorem RpIn.setY {W : World} {g : Nat} {x x' : RpK} {vh ve vp : Value} {ds : List Sg} {t : TypeId} {cs : Array Value} (h : RpIn W x vh ve vp ds) (hy : Blk W g (rpC x' nilS nilS nilS) t) : RpIn (W.setRow g cs) x vh ve vp ds :=
  ⟨SgsAt.setY h.heads hy, h.keys, StrsAt.setY h.entries hy, SlAt.setY h.proof hy⟩
theorem RpIn.ones {w : World} {x : RpK} {vh ve vp : Value} {ds : List Sg} (h : RpIn w x vh ve vp ds) : ∀ v ∈ (rpC x vh ve vp).toList, v.oneCell' = true :=
  rpC_oneS _ _ _ _ (SlAt.oneS h.heads.at_) (SlAt.oneS h.entries) (SlAt.oneS h.proof)
theorem nuN_leS (x : Rds) (most : Nat) : nuN x most ≤ most := by
  unfold nuN
  split
  · rename_i h
    unfold nuB at h
    simp only [Bool.and_eq_true, decide_eq_true_eq] at h
    exact h.2
  · omega
theorem nusL_leS : ∀ (n : Nat) (x : Rds), ∀ m ∈ nusL n x, m ≤ 1073741824
  | 0, x, m, hm => by simp [nusL] at hm
  | n + 1, x, m, hm => by
    rw [nusL, List.mem_cons] at hm
    rcases hm with rfl | hm
    · exact nuN_leS x 1073741824
    · exact nusL_leS n (nuS x 1073741824) m hm
theorem getD_leS {l : List Nat} (h : ∀ m ∈ l, m ≤ 1073741824) (i : Nat) : l.getD i 0 ≤ 1073741824 := by
  rw [List.getD_eq_getElem?_getD]
  cases hq : l[i]? with
  | none => simp
  | some m => exact h m (List.mem_of_getElem? hq)
theorem rqOf_I (id k : Nat) (l : List Nat) (hi : id ≤ 1073741824) (hk : k ≤ 5) (h : ∀ m ∈ l, m ≤ 1073741824) : RqI (rqOf id k l) := by
  have h0 := getD_leS h 0
  have h1 := getD_leS h 1
  have h2 := getD_leS h 2
  unfold rqOf
  split
  · constructor <;> (unfold inI; simp only; omega)
  split
  · constructor <;> (unfold inI; simp only; omega)
  · constructor <;> (unfold inI; simp only; omega)
theorem getRq_I {l : List UInt8} {r : Rq} (h : getRq l = some r) : RqI r := by
  simp only [getRq] at h
  split at h
  · injection h with h
    subst h
    exact rqOf_I _ _ _ (nuN_leS _ _) (nuN_leS _ _) (nusL_leS _ _)
  · cases h
theorem Tryd.sizeRqT : (Tryd.prog.info? 61).map (·.size) = some 5 := by kernel_rfl
set_option maxHeartbeats 8000000 in
theorem serve_some_put (S : Src) (ve vl vh vf : Value) (hd fd : List Sg) (raw : List UInt8) (w : World) (hX : SrcIn w S ve vl vh vf hd fd) (hs : SrcSmall S) (hl : raw.length ≤ 1000000000) (hG : ShaG w) (r : Rq) (hr : getRq raw = some r) (t : List UInt8) (hp : putRp (ansRp S r) = some t) :
    Calls Tryd.prog 35 #[.agg (srcC ve vl vh vf), sv raw] w fun e w' => e = .returned (sv t) ∧ Below w.heap.size w w' := by
  have GR := hid (fun w' => rqget_any raw w' hl)
  rw [hr] at GR
  have F0 := hid (fun w' => failed_any 0 0 w')
  have hRI := getRq_I hr
  have AN := hid (fun w' (hb : Below w.heap.size w w') => answer_any S ve vl vh vf hd fd r w' (hX.below hb) hs hRI (hG.later hb))
  have hsm := ansRp_small S r hs
  have PT := hid (fun w' uh ue up ds (h : RpIn w' (ansRp S r) uh ue up ds) => rpput_any (ansRp S r) uh ue up ds w' h hsm)
  rw [hp] at PT
  simp only [putR] at PT
  generalize ansRp S r = x at *
  unfold getRqV at GR
  simp only at GR
  clear hX hs hr hp hsm hRI hG
  go_enter Tryd.func35, Tryd.ntmps35
  go_upto_region 1 with fail
  refine wp_world (fun W => Blk W w.heap.size (srcC ve vl vh vf) 59 ∧ Below w.heap.size w W) ⟨Blk.new _ _ _, (Below.refl _ w).alloc (Nat.le_refl _) _⟩ ?_
  rintro w0 ⟨hS0, hb0⟩
  have HS0 := hid hS0; have HB0 := hid hb0
  clear hS0 hb0
  go_upto_region 2 with (first
    | (go_at_call 60; refine (GR.out _).mono ?_; rintro e w1 ⟨rfl, hb1⟩)
    | ((with_reducible show wpList _ _ _ ({ dst := _, op := Op.store _ _ _, type := _, pos := _, after := _, guard := _ } :: _) _ _); refine wpList_store_newA rfl 61 _ _ rfl rfl (Rq.cs r) rfl _ 61 rfl Tryd.sizeRqT (Rq.cs_one r) ?_))
  refine wp_world (fun W => Blk W w.heap.size (srcC ve vl vh vf) 59 ∧ Blk W w1.heap.size (Rq.cs r) 61 ∧ Below w.heap.size w W) ⟨(HS0.out.later hb1).alloc _, Blk.new _ _ _, (bth HB0.out hb1).alloc (bth HB0.out hb1).size _⟩ ?_
  rintro y1 ⟨hS1, hQ1, hB1⟩
  have HS1 := hid hS1; have HQ1 := hid hQ1; have HB1 := hid hB1
  clear hS1 hQ1 hB1 hb1 HS0 HB0 GR
  generalize w1.heap.size = g5 at *
  go_upto_region 3 with (first
    | (go_at_call 54; refine (F0.out _).mono ?_; rintro e w2 ⟨rfl, hb2⟩)
    | ((with_reducible show wpList _ _ _ ({ dst := _, op := Op.store _ _ _, type := _, pos := _, after := _, guard := _ } :: _) _ _); refine wpList_store_newA rfl 68 _ _ rfl rfl (rpC (failRp 0 0) nilS nilS nilS) rfl _ 68 rfl Tryd.sizeRpS (rpC_oneS _ _ _ _ rfl rfl rfl) ?_))
  refine wp_world (fun W => Blk W w.heap.size (srcC ve vl vh vf) 59 ∧ Blk W g5 (Rq.cs r) 61 ∧ Blk W w2.heap.size (rpC (failRp 0 0) nilS nilS nilS) 68 ∧ Below w.heap.size w W ∧ w.heap.size ≤ w2.heap.size ∧ g5 ≠ w2.heap.size) ⟨(HS1.out.later hb2).alloc _, (HQ1.out.later hb2).alloc _, Blk.new _ _ _, (bth HB1.out hb2).alloc (bth HB1.out hb2).size _, (bth HB1.out hb2).size, Nat.ne_of_lt (HQ1.out.later hb2).lt⟩ ?_
  rintro y2 ⟨hS2, hQ2, hY2, hB2, hg7, hne⟩
  have HS2 := hid hS2; have HQ2 := hid hQ2; have HY2 := hid hY2; have HB2 := hid hB2; have Hg7 := hid hg7; have Hne := hid hne
  clear hS2 hQ2 hY2 hB2 hb2 HS1 HQ1 HB1 F0 hg7 hne
  generalize w2.heap.size = g7 at *
  go_upto_region 5 with (first
    | ((with_reducible show wpList _ _ _ ({ dst := _, op := Op.load 59 _, type := _, pos := _, after := _, guard := _ } :: _) _ _); refine wpList_load_blk rfl 59 _ rfl w.heap.size rfl 59 (srcC ve vl vh vf) _ HS2.out Tryd.underlying59 rfl Tryd.sizeSrc ?_)
    | ((with_reducible show wpList _ _ _ ({ dst := _, op := Op.load 61 _, type := _, pos := _, after := _, guard := _ } :: _) _ _); refine wpList_load_blk rfl 61 _ rfl g5 rfl 61 (Rq.cs r) _ HQ2.out Tryd.underlying61 rfl Tryd.sizeRqT ?_)
    | (go_at_call 33; refine (AN.out _ HB2.out).mono ?_; rintro e w4 ⟨uh, ue, up, ds, rfl, hin, hb4⟩; have HQ4 := hid (HQ2.out.later hb4); have HY4 := hid (HY2.out.later hb4); have HB4 := hid (bth HB2.out hb4); have Hin := hid hin; clear hin hb4)
    | ((with_reducible show wpList _ _ _ ({ dst := _, op := Op.store 68 _ _, type := _, pos := _, after := _, guard := _ } :: _) _ _); refine wpList_store_blk rfl 68 _ _ rfl g7 rfl (rpC x uh ue up) rfl _ _ HY4.out rfl Tryd.sizeRpS Hin.out.ones ?_))
  have HQ5 := hid (HQ4.out.setRow_ne (cs' := rpC x uh ue up) Hne.out)
  have HY5 := hid (HY4.out.setRow (cs' := rpC x uh ue up))
  have HB5 := hid (HB4.out.setRow (g := g7) Hg7.out (rpC x uh ue up))
  have Hin5 := hid (RpIn.setY (cs := rpC x uh ue up) Hin.out HY4.out)
  clear HQ4 HY4 HB4 Hin AN HS2 HQ2 HY2 HB2
  generalize w4.setRow g7 (rpC x uh ue up) = w5 at *
  go_upto_region 6 with (first
    | ((with_reducible show wpList _ _ _ ({ dst := _, op := Op.load 68 _, type := _, pos := _, after := _, guard := _ } :: _) _ _); refine wpList_load_blk rfl 68 _ rfl g7 rfl 68 (rpC x uh ue up) _ HY5.out Tryd.underlying68 rfl Tryd.sizeRpS ?_)
    | (go_at_call 61; refine (PT.out _ uh ue up ds Hin5.out).mono ?_; rintro e w6 ⟨rfl, hb6⟩))
  go_wp2
  go_ret
  exact ⟨rfl, bth HB5.out hb6⟩
set_option maxHeartbeats 8000000 in
theorem serve_some_no (S : Src) (ve vl vh vf : Value) (hd fd : List Sg) (raw : List UInt8) (w : World) (hX : SrcIn w S ve vl vh vf hd fd) (hs : SrcSmall S) (hl : raw.length ≤ 1000000000) (hG : ShaG w) (r : Rq) (hr : getRq raw = some r) (hp : putRp (ansRp S r) = none) :
    Calls Tryd.prog 35 #[.agg (srcC ve vl vh vf), sv raw] w fun e w' => e = .returned (sv ((putRp (failRp r.id 2)).getD [])) ∧ Below w.heap.size w w' := by
  have GR := hid (fun w' => rqget_any raw w' hl)
  rw [hr] at GR
  have F0 := hid (fun w' => failed_any 0 0 w')
  have hRI := getRq_I hr
  have AN := hid (fun w' (hb : Below w.heap.size w w') => answer_any S ve vl vh vf hd fd r w' (hX.below hb) hs hRI (hG.later hb))
  have hsm := ansRp_small S r hs
  have PT := hid (fun w' uh ue up ds (h : RpIn w' (ansRp S r) uh ue up ds) => rpput_any (ansRp S r) uh ue up ds w' h hsm)
  rw [hp] at PT
  simp only [putR] at PT
  have hsm2 := failRp_small r.id 2 (by omega)
  have P2 := hid (fun w' => rpput_any (failRp r.id 2) nilS nilS nilS [] w' (failIn w' r.id 2) hsm2)
  have F2 := hid (fun w' => failed_any r.id 2 w')
  generalize ansRp S r = x at *
  have HP2 := hid (show ∃ t2 e2, putR (putRp (failRp r.id 2)) = .tuple #[sv t2, .int .i64 e2] ∧ (putRp (failRp r.id 2)).getD [] = t2 from by
    cases putRp (failRp r.id 2) with
    | none => exact ⟨[], 2, rfl, rfl⟩
    | some t => exact ⟨t, 0, rfl, rfl⟩)
  obtain ⟨t2, e2, ht2, ht3⟩ := HP2.out
  rw [ht2] at P2
  rw [ht3]
  clear HP2 ht2 ht3 hsm2
  unfold getRqV at GR
  simp only at GR
  clear hX hs hr hp hsm hRI hG
  go_enter Tryd.func35, Tryd.ntmps35
  go_upto_region 1 with fail
  refine wp_world (fun W => Blk W w.heap.size (srcC ve vl vh vf) 59 ∧ Below w.heap.size w W) ⟨Blk.new _ _ _, (Below.refl _ w).alloc (Nat.le_refl _) _⟩ ?_
  rintro w0 ⟨hS0, hb0⟩
  have HS0 := hid hS0; have HB0 := hid hb0
  clear hS0 hb0
  go_upto_region 2 with (first
    | (go_at_call 60; refine (GR.out _).mono ?_; rintro e w1 ⟨rfl, hb1⟩)
    | ((with_reducible show wpList _ _ _ ({ dst := _, op := Op.store _ _ _, type := _, pos := _, after := _, guard := _ } :: _) _ _); refine wpList_store_newA rfl 61 _ _ rfl rfl (Rq.cs r) rfl _ 61 rfl Tryd.sizeRqT (Rq.cs_one r) ?_))
  refine wp_world (fun W => Blk W w.heap.size (srcC ve vl vh vf) 59 ∧ Blk W w1.heap.size (Rq.cs r) 61 ∧ Below w.heap.size w W) ⟨(HS0.out.later hb1).alloc _, Blk.new _ _ _, (bth HB0.out hb1).alloc (bth HB0.out hb1).size _⟩ ?_
  rintro y1 ⟨hS1, hQ1, hB1⟩
  have HS1 := hid hS1; have HQ1 := hid hQ1; have HB1 := hid hB1
  clear hS1 hQ1 hB1 hb1 HS0 HB0 GR
  generalize w1.heap.size = g5 at *
  go_upto_region 3 with (first
    | (go_at_call 54; refine (F0.out _).mono ?_; rintro e w2 ⟨rfl, hb2⟩)
    | ((with_reducible show wpList _ _ _ ({ dst := _, op := Op.store _ _ _, type := _, pos := _, after := _, guard := _ } :: _) _ _); refine wpList_store_newA rfl 68 _ _ rfl rfl (rpC (failRp 0 0) nilS nilS nilS) rfl _ 68 rfl Tryd.sizeRpS (rpC_oneS _ _ _ _ rfl rfl rfl) ?_))
  refine wp_world (fun W => Blk W w.heap.size (srcC ve vl vh vf) 59 ∧ Blk W g5 (Rq.cs r) 61 ∧ Blk W w2.heap.size (rpC (failRp 0 0) nilS nilS nilS) 68 ∧ Below w.heap.size w W ∧ w.heap.size ≤ w2.heap.size ∧ g5 ≠ w2.heap.size) ⟨(HS1.out.later hb2).alloc _, (HQ1.out.later hb2).alloc _, Blk.new _ _ _, (bth HB1.out hb2).alloc (bth HB1.out hb2).size _, (bth HB1.out hb2).size, Nat.ne_of_lt (HQ1.out.later hb2).lt⟩ ?_
  rintro y2 ⟨hS2, hQ2, hY2, hB2, hg7, hne⟩
  have HS2 := hid hS2; have HQ2 := hid hQ2; have HY2 := hid hY2; have HB2 := hid hB2; have Hg7 := hid hg7; have Hne := hid hne
  clear hS2 hQ2 hY2 hB2 hb2 HS1 HQ1 HB1 F0 hg7 hne
  generalize w2.heap.size = g7 at *
  go_upto_region 5 with (first
    | ((with_reducible show wpList _ _ _ ({ dst := _, op := Op.load 59 _, type := _, pos := _, after := _, guard := _ } :: _) _ _); refine wpList_load_blk rfl 59 _ rfl w.heap.size rfl 59 (srcC ve vl vh vf) _ HS2.out Tryd.underlying59 rfl Tryd.sizeSrc ?_)
    | ((with_reducible show wpList _ _ _ ({ dst := _, op := Op.load 61 _, type := _, pos := _, after := _, guard := _ } :: _) _ _); refine wpList_load_blk rfl 61 _ rfl g5 rfl 61 (Rq.cs r) _ HQ2.out Tryd.underlying61 rfl Tryd.sizeRqT ?_)
    | (go_at_call 33; refine (AN.out _ HB2.out).mono ?_; rintro e w4 ⟨uh, ue, up, ds, rfl, hin, hb4⟩; have HQ4 := hid (HQ2.out.later hb4); have HY4 := hid (HY2.out.later hb4); have HB4 := hid (bth HB2.out hb4); have Hin := hid hin; clear hin hb4)
    | ((with_reducible show wpList _ _ _ ({ dst := _, op := Op.store 68 _ _, type := _, pos := _, after := _, guard := _ } :: _) _ _); refine wpList_store_blk rfl 68 _ _ rfl g7 rfl (rpC x uh ue up) rfl _ _ HY4.out rfl Tryd.sizeRpS Hin.out.ones ?_))
  have HQ5 := hid (HQ4.out.setRow_ne (cs' := rpC x uh ue up) Hne.out)
  have HY5 := hid (HY4.out.setRow (cs' := rpC x uh ue up))
  have HB5 := hid (HB4.out.setRow (g := g7) Hg7.out (rpC x uh ue up))
  have Hin5 := hid (RpIn.setY (cs := rpC x uh ue up) Hin.out HY4.out)
  clear HQ4 HY4 HB4 Hin AN HS2 HQ2 HY2 HB2
  generalize w4.setRow g7 (rpC x uh ue up) = w5 at *
  go_upto_region 6 with (first
    | ((with_reducible show wpList _ _ _ ({ dst := _, op := Op.load 68 _, type := _, pos := _, after := _, guard := _ } :: _) _ _); refine wpList_load_blk rfl 68 _ rfl g7 rfl 68 (rpC x uh ue up) _ HY5.out Tryd.underlying68 rfl Tryd.sizeRpS ?_)
    | (go_at_call 61; refine (PT.out _ uh ue up ds Hin5.out).mono ?_; rintro e w6 ⟨rfl, hb6⟩))
  have r0 : w6.cell? ⟨g5, 0, none⟩ = some (.int .i64 r.id) := Blk.cell (HQ5.out.later hb6) 0
  have HB6 := hid (bth HB5.out hb6)
  clear hb6 PT
  generalize r.id = rid at *
  go_wp2_with (first
    | (go_at_call 54; refine (F2.out _).mono ?_; rintro e w7 ⟨rfl, hb7⟩)
    | (go_at_call 61; refine (P2.out _).mono ?_; rintro e w8 ⟨rfl, hb8⟩))
  go_ret
  exact ⟨rfl, bth HB6.out (bth hb7 hb8)⟩
set_option maxHeartbeats 8000000 in
theorem serve_none_put (S : Src) (ve vl vh vf : Value) (hd fd : List Sg) (raw : List UInt8) (w : World) (hX : SrcIn w S ve vl vh vf hd fd) (hs : SrcSmall S) (hl : raw.length ≤ 1000000000) (hG : ShaG w) (hr : getRq raw = none) (t : List UInt8) (hp : putRp (failRp 0 10) = some t) :
    Calls Tryd.prog 35 #[.agg (srcC ve vl vh vf), sv raw] w fun e w' => e = .returned (sv t) ∧ Below w.heap.size w w' := by
  have GR := hid (fun w' => rqget_any raw w' hl)
  rw [hr] at GR
  have F0 := hid (fun w' => failed_any 0 10 w')
  have hsm := failRp_small 0 10 (by omega)
  have PT := hid (fun w' uh ue up ds (h : RpIn w' (failRp 0 10) uh ue up ds) => rpput_any (failRp 0 10) uh ue up ds w' h hsm)
  rw [hp] at PT
  simp only [putR] at PT
  unfold getRqV at GR
  simp only at GR
  clear hX hs hr hp hsm hG
  go_enter Tryd.func35, Tryd.ntmps35
  go_upto_region 1 with fail
  refine wp_world (fun W => Blk W w.heap.size (srcC ve vl vh vf) 59 ∧ Below w.heap.size w W) ⟨Blk.new _ _ _, (Below.refl _ w).alloc (Nat.le_refl _) _⟩ ?_
  rintro w0 ⟨hS0, hb0⟩
  have HS0 := hid hS0; have HB0 := hid hb0
  clear hS0 hb0
  go_upto_region 2 with (first
    | (go_at_call 60; refine (GR.out _).mono ?_; rintro e w1 ⟨rfl, hb1⟩)
    | ((with_reducible show wpList _ _ _ ({ dst := _, op := Op.store _ _ _, type := _, pos := _, after := _, guard := _ } :: _) _ _); refine wpList_store_newA rfl 61 _ _ rfl rfl (Rq.cs zeroRq) rfl _ 61 rfl Tryd.sizeRqT (Rq.cs_one zeroRq) ?_))
  refine wp_world (fun W => Blk W w.heap.size (srcC ve vl vh vf) 59 ∧ Blk W w1.heap.size (Rq.cs zeroRq) 61 ∧ Below w.heap.size w W) ⟨(HS0.out.later hb1).alloc _, Blk.new _ _ _, (bth HB0.out hb1).alloc (bth HB0.out hb1).size _⟩ ?_
  rintro y1 ⟨hS1, hQ1, hB1⟩
  have HS1 := hid hS1; have HQ1 := hid hQ1; have HB1 := hid hB1
  clear hS1 hQ1 hB1 hb1 HS0 HB0 GR
  generalize w1.heap.size = g5 at *
  go_upto_region 3 with (first
    | (go_at_call 54; refine (F0.out _).mono ?_; rintro e w2 ⟨rfl, hb2⟩)
    | ((with_reducible show wpList _ _ _ ({ dst := _, op := Op.store _ _ _, type := _, pos := _, after := _, guard := _ } :: _) _ _); refine wpList_store_newA rfl 68 _ _ rfl rfl (rpC (failRp 0 10) nilS nilS nilS) rfl _ 68 rfl Tryd.sizeRpS (rpC_oneS _ _ _ _ rfl rfl rfl) ?_))
  refine wp_world (fun W => Blk W w.heap.size (srcC ve vl vh vf) 59 ∧ Blk W g5 (Rq.cs zeroRq) 61 ∧ Blk W w2.heap.size (rpC (failRp 0 10) nilS nilS nilS) 68 ∧ Below w.heap.size w W ∧ w.heap.size ≤ w2.heap.size ∧ g5 ≠ w2.heap.size) ⟨(HS1.out.later hb2).alloc _, (HQ1.out.later hb2).alloc _, Blk.new _ _ _, (bth HB1.out hb2).alloc (bth HB1.out hb2).size _, (bth HB1.out hb2).size, Nat.ne_of_lt (HQ1.out.later hb2).lt⟩ ?_
  rintro y2 ⟨hS2, hQ2, hY2, hB2, hg7, hne⟩
  have HS2 := hid hS2; have HQ2 := hid hQ2; have HY2 := hid hY2; have HB2 := hid hB2; have Hg7 := hid hg7; have Hne := hid hne
  clear hS2 hQ2 hY2 hB2 hb2 HS1 HQ1 HB1 F0 hg7 hne
  generalize w2.heap.size = g7 at *
  have HQ5 := HQ2; have HY5 := HY2; have HB5 := HB2
  have Hin5 := hid (failIn y2 0 10)
  go_upto_region 6 with (first
    | ((with_reducible show wpList _ _ _ ({ dst := _, op := Op.load 68 _, type := _, pos := _, after := _, guard := _ } :: _) _ _); refine wpList_load_blk rfl 68 _ rfl g7 rfl 68 (rpC (failRp 0 10) nilS nilS nilS) _ HY5.out Tryd.underlying68 rfl Tryd.sizeRpS ?_)
    | (go_at_call 61; refine (PT.out _ nilS nilS nilS [] Hin5.out).mono ?_; rintro e w6 ⟨rfl, hb6⟩))
  go_wp2
  go_ret
  exact ⟨rfl, bth HB5.out hb6⟩
set_option maxHeartbeats 8000000 in
theorem serve_none_no (S : Src) (ve vl vh vf : Value) (hd fd : List Sg) (raw : List UInt8) (w : World) (hX : SrcIn w S ve vl vh vf hd fd) (hs : SrcSmall S) (hl : raw.length ≤ 1000000000) (hG : ShaG w) (hr : getRq raw = none) (hp : putRp (failRp 0 10) = none) :
    Calls Tryd.prog 35 #[.agg (srcC ve vl vh vf), sv raw] w fun e w' => e = .returned (sv ((putRp (failRp zeroRq.id 2)).getD [])) ∧ Below w.heap.size w w' := by
  have GR := hid (fun w' => rqget_any raw w' hl)
  rw [hr] at GR
  have F0 := hid (fun w' => failed_any 0 10 w')
  have hsm := failRp_small 0 10 (by omega)
  have PT := hid (fun w' uh ue up ds (h : RpIn w' (failRp 0 10) uh ue up ds) => rpput_any (failRp 0 10) uh ue up ds w' h hsm)
  rw [hp] at PT
  simp only [putR] at PT
  have hsm2 := failRp_small zeroRq.id 2 (by omega)
  have P2 := hid (fun w' => rpput_any (failRp zeroRq.id 2) nilS nilS nilS [] w' (failIn w' zeroRq.id 2) hsm2)
  have F2 := hid (fun w' => failed_any zeroRq.id 2 w')
  have HP2 := hid (show ∃ t2 e2, putR (putRp (failRp zeroRq.id 2)) = .tuple #[sv t2, .int .i64 e2] ∧ (putRp (failRp zeroRq.id 2)).getD [] = t2 from by
    cases putRp (failRp zeroRq.id 2) with
    | none => exact ⟨[], 2, rfl, rfl⟩
    | some t => exact ⟨t, 0, rfl, rfl⟩)
  obtain ⟨t2, e2, ht2, ht3⟩ := HP2.out
  rw [ht2] at P2
  rw [ht3]
  clear HP2 ht2 ht3 hsm2
  unfold getRqV at GR
  simp only at GR
  clear hX hs hr hp hsm hG
  go_enter Tryd.func35, Tryd.ntmps35
  go_upto_region 1 with fail
  refine wp_world (fun W => Blk W w.heap.size (srcC ve vl vh vf) 59 ∧ Below w.heap.size w W) ⟨Blk.new _ _ _, (Below.refl _ w).alloc (Nat.le_refl _) _⟩ ?_
  rintro w0 ⟨hS0, hb0⟩
  have HS0 := hid hS0; have HB0 := hid hb0
  clear hS0 hb0
  go_upto_region 2 with (first
    | (go_at_call 60; refine (GR.out _).mono ?_; rintro e w1 ⟨rfl, hb1⟩)
    | ((with_reducible show wpList _ _ _ ({ dst := _, op := Op.store _ _ _, type := _, pos := _, after := _, guard := _ } :: _) _ _); refine wpList_store_newA rfl 61 _ _ rfl rfl (Rq.cs zeroRq) rfl _ 61 rfl Tryd.sizeRqT (Rq.cs_one zeroRq) ?_))
  refine wp_world (fun W => Blk W w.heap.size (srcC ve vl vh vf) 59 ∧ Blk W w1.heap.size (Rq.cs zeroRq) 61 ∧ Below w.heap.size w W) ⟨(HS0.out.later hb1).alloc _, Blk.new _ _ _, (bth HB0.out hb1).alloc (bth HB0.out hb1).size _⟩ ?_
  rintro y1 ⟨hS1, hQ1, hB1⟩
  have HS1 := hid hS1; have HQ1 := hid hQ1; have HB1 := hid hB1
  clear hS1 hQ1 hB1 hb1 HS0 HB0 GR
  generalize w1.heap.size = g5 at *
  go_upto_region 3 with (first
    | (go_at_call 54; refine (F0.out _).mono ?_; rintro e w2 ⟨rfl, hb2⟩)
    | ((with_reducible show wpList _ _ _ ({ dst := _, op := Op.store _ _ _, type := _, pos := _, after := _, guard := _ } :: _) _ _); refine wpList_store_newA rfl 68 _ _ rfl rfl (rpC (failRp 0 10) nilS nilS nilS) rfl _ 68 rfl Tryd.sizeRpS (rpC_oneS _ _ _ _ rfl rfl rfl) ?_))
  refine wp_world (fun W => Blk W w.heap.size (srcC ve vl vh vf) 59 ∧ Blk W g5 (Rq.cs zeroRq) 61 ∧ Blk W w2.heap.size (rpC (failRp 0 10) nilS nilS nilS) 68 ∧ Below w.heap.size w W ∧ w.heap.size ≤ w2.heap.size ∧ g5 ≠ w2.heap.size) ⟨(HS1.out.later hb2).alloc _, (HQ1.out.later hb2).alloc _, Blk.new _ _ _, (bth HB1.out hb2).alloc (bth HB1.out hb2).size _, (bth HB1.out hb2).size, Nat.ne_of_lt (HQ1.out.later hb2).lt⟩ ?_
  rintro y2 ⟨hS2, hQ2, hY2, hB2, hg7, hne⟩
  have HS2 := hid hS2; have HQ2 := hid hQ2; have HY2 := hid hY2; have HB2 := hid hB2; have Hg7 := hid hg7; have Hne := hid hne
  clear hS2 hQ2 hY2 hB2 hb2 HS1 HQ1 HB1 F0 hg7 hne
  generalize w2.heap.size = g7 at *
  have HQ5 := HQ2; have HY5 := HY2; have HB5 := HB2
  have Hin5 := hid (failIn y2 0 10)
  go_upto_region 6 with (first
    | ((with_reducible show wpList _ _ _ ({ dst := _, op := Op.load 68 _, type := _, pos := _, after := _, guard := _ } :: _) _ _); refine wpList_load_blk rfl 68 _ rfl g7 rfl 68 (rpC (failRp 0 10) nilS nilS nilS) _ HY5.out Tryd.underlying68 rfl Tryd.sizeRpS ?_)
    | (go_at_call 61; refine (PT.out _ nilS nilS nilS [] Hin5.out).mono ?_; rintro e w6 ⟨rfl, hb6⟩))
  have r0 : w6.cell? ⟨g5, 0, none⟩ = some (.int .i64 zeroRq.id) := Blk.cell (HQ5.out.later hb6) 0
  have HB6 := hid (bth HB5.out hb6)
  clear hb6 PT
  generalize zeroRq.id = rid at *
  go_wp2_with (first
    | (go_at_call 54; refine (F2.out _).mono ?_; rintro e w7 ⟨rfl, hb7⟩)
    | (go_at_call 61; refine (P2.out _).mono ?_; rintro e w8 ⟨rfl, hb8⟩))
  go_ret
  exact ⟨rfl, bth HB6.out (bth hb7 hb8)⟩
theorem serve_any (S : Src) (ve vl vh vf : Value) (hd fd : List Sg) (raw : List UInt8) (w : World) (hX : SrcIn w S ve vl vh vf hd fd) (hs : SrcSmall S) (hl : raw.length ≤ 1000000000) (hG : ShaG w) :
    Calls Tryd.prog 35 #[.agg (srcC ve vl vh vf), sv raw] w fun e w' => e = .returned (sv (srvB S raw)) ∧ Below w.heap.size w w' := by
  unfold srvB srvX srvI
  cases hr : getRq raw with
  | some r =>
    simp only
    cases hp : putRp (ansRp S r) with
    | some t => exact serve_some_put S ve vl vh vf hd fd raw w hX hs hl hG r hr t hp
    | none => exact serve_some_no S ve vl vh vf hd fd raw w hX hs hl hG r hr hp
  | none =>
    simp only
    cases hp : putRp (failRp 0 10) with
    | some t => exact serve_none_put S ve vl vh vf hd fd raw w hX hs hl hG hr t hp
    | none => exact serve_none_no S ve vl vh vf hd fd raw w hX hs hl hG hr hp
end Go.Proofs.YtbpjlancjdbehaaDoor
