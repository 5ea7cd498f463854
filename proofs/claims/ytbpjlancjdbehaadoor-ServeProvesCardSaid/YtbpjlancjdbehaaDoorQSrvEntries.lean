/- serve: what a request for entries is answered -/
import Derived.Test.YtbpjlancjdbehaaDoorQAnyOp
import Derived.Test.YtbpjlancjdbehaaDoorQSrvLaw
import Derived.Test.YtbpjlancjdbehaaDoorQTileMap

set_option maxRecDepth 100000
namespace Go.Proofs.YtbpjlancjdbehaaDoor
open Go.RowKit Go.Spec
/-- an answer, where it lies -/
def AnsR (w : World) (x : RpK) (e : Ending) (w' : World) : Prop := ∃ vh ve vp ds, e = .returned (.agg (rpC x vh ve vp)) ∧ RpIn w' x vh ve vp ds ∧ Below w.heap.size w w'
theorem strsNil (w : World) : StrsAt w (.slice none 0 0) [] := StrsAt.of_owns (base := 0) (e := 0) (World.ownsRow_nil _ _ _ _)
theorem failIn (w : World) (id e : Int) : RpIn w (failRp id e) nilS nilS nilS [] := ⟨SgsAt.nil _, rfl, strsNil _, slNilP _⟩
theorem scells_flat (ls : List (List UInt8)) : (scells ls).flatten = ls.map sv := by
  unfold scells
  induction ls with
  | nil => rfl
  | cons a l ih => simp [ih]
theorem scells_take (ls : List (List UInt8)) (k : Nat) : (scells ls).take k = scells (ls.take k) := by unfold scells; rw [List.map_take]
theorem scells_drop (ls : List (List UInt8)) (k : Nat) : (scells ls).drop k = scells (ls.drop k) := by unfold scells; rw [List.map_drop]
theorem Tryd.infoStrS : (Tryd.prog.info? 9).map (fun i => (i.zero, i.size, i.bytes)) = some (some (.string ⟨#[]⟩), 1, 16) := by kernel_rfl
theorem Tryd.sizeStrS : (Tryd.prog.info? 9).map (·.size) = some 1 := by kernel_rfl
theorem Tryd.sizeSrc : (Tryd.prog.info? 59).map (·.size) = some 4 := by kernel_rfl
theorem Tryd.sizeRqS : (Tryd.prog.info? 61).map (·.size) = some 5 := by kernel_rfl
/-- the worlds behind the boxes -/
structure SrvW (w W : World) (T : TypeId) (sc rc : Array Value) : Prop where
  s : Blk W w.heap.size sc T
  r : Blk W (w.heap.size + 1) rc 61
  y : Blk W (w.heap.size + 1 + 1) (rpC ⟨0, 0, 0, [], [], []⟩ nilS nilS nilS) 68
  be : Below w.heap.size w W
theorem SrvW.new (w : World) (T : TypeId) (sc rc : Array Value) : SrvW w (((w.alloc (.cells sc T)).alloc (.cells rc 61)).alloc (.cells (rpC ⟨0, 0, 0, [], [], []⟩ nilS nilS nilS) 68)) T sc rc :=
  ⟨((Blk.new _ _ _).alloc _).alloc _, (Blk.new' _ _ _ (by simp)).alloc _, Blk.new' _ _ _ (by simp), (((Below.refl _ w).alloc (Nat.le_refl _) _).alloc (by simp) _).alloc (by simp; omega) _⟩
theorem SrvW.later {w W W' : World} {T : TypeId} {sc rc : Array Value} (h : SrvW w W T sc rc) (hb : Below W.heap.size W W') : SrvW w W' T sc rc := ⟨h.s.later hb, h.r.later hb, h.y.later hb, bth h.be hb⟩
structure RqI (r : Rq) : Prop where
  id : inI r.id
  kind : inI r.kind
  fr : inI r.fr
  count : inI r.count
  size : inI r.size
/-- a reply's variable has no byte -/
theorem rp_far {W : World} {g k j : Nat} {x : RpK} {t : TypeId} {u : UInt8} (h : Blk W g (rpC x nilS nilS nilS) t) (hc : W.cell? ⟨k, j, none⟩ = some (bcell u)) : k ≠ g := fun e => by
  subst e
  have hq := h.cell j
  rw [hc] at hq
  match j, hq with
  | 0, q => simp [bcell, rpC] at q
  | 1, q => simp [bcell, rpC] at q
  | 2, q => simp [bcell, rpC] at q
  | 3, q => simp [bcell, rpC] at q
  | 4, q => simp [bcell, rpC] at q
  | 5, q => simp [bcell, rpC] at q
  | j + 6, q => simp [rpC] at q
theorem SlAt.setY {W : World} {g : Nat} {v : Value} {hs : List (List UInt8)} {x : RpK} {t : TypeId} {cs : Array Value} (h : SlAt W 32 v (hcs hs)) (hy : Blk W g (rpC x nilS nilS nilS) t) : SlAt (W.setRow g cs) 32 v (hcs hs) := by
  have h32 := h.len32
  obtain ⟨a, cap, hv, hc, hs', hr⟩ := h
  refine ⟨a, cap, hv, hc, hs', fun i cs hi => ?_⟩
  obtain ⟨k, o, ha, hlt, hcell⟩ := hr i cs hi
  have hi' : i < hs.length := by
    have := (List.getElem?_eq_some_iff.1 hi).1
    rwa [hcs_length] at this
  have he : cs = hs[i].map bcell := by
    simp only [hcs, List.getElem?_map, List.getElem?_eq_getElem hi', Option.map_some] at hi
    injection hi with hi
    exact hi.symm
  subst he
  have hlen := h32 _ (List.getElem_mem hi')
  have h0 : (hs[i].map bcell)[0]? = some (bcell (hs[i][0]'(by omega))) := by
    rw [List.getElem?_map, List.getElem?_eq_getElem (by omega)]; rfl
  have n1 := rp_far hy (hcell 0 _ h0)
  refine ⟨k, o, ha, by rw [setRow_size']; exact hlt, fun j u hj => ?_⟩
  have := hcell j u hj
  unfold World.cell? at this ⊢
  rw [setRow_ne n1]; exact this
/-- a row of the call's own, beside another block that is written -/
theorem _root_.Go.World.ownsRow.setB {W : World} {base e size n g : Nat} {v : Value} {xs : List Value} {cs : Array Value} (h : W.ownsRow base e size v n xs) (hg : g < base) : (W.setRow g cs).ownsRow base e size v n xs := by
  have hgr : W.grownBy (W.setRow g cs) (some g) := ⟨rfl, rfl, rfl, by rw [setRow_size']; exact Nat.le_refl _, fun k _ hk => setRow_ne (fun e => hk (by rw [e]))⟩
  refine h.kept hgr (.inr fun e => ?_)
  have := (h.lt _ e).1
  omega
theorem proofNat (l : List (List UInt8)) (v : Value) (m n : Nat) (w : World) (hl : l.length ≤ 1000000) (hn : n ≤ l.length) (hm : m ≤ n) (hS : SlAt w 32 v (hcs (l.take n))) (hG : ShaG w) :
    Calls Tryd.prog 58 #[v, .int .i64 (m : Int)] w fun e w' => (∃ u, e = .returned (.tuple #[u, .int .i64 0]) ∧ SlAt w' 32 u (hcs (rprX (l.take n) (m : Int)))) ∧ Below w.heap.size w w' := by
  have h := pproof_any (l.take n) v (m : Int) w (by rw [List.length_take]; omega) hS hG
  rwa [show rprE (l.take n) (m : Int) = 0 by unfold rprE; rw [if_pos (by rw [List.length_take]; omega)]] at h
theorem pathNat (l : List (List UInt8)) (v : Value) (m n : Nat) (w : World) (hl : l.length ≤ 1000000) (hn : n ≤ l.length) (hm : m < n) (hS : SlAt w 32 v (hcs (l.take n))) (hG : ShaG w) :
    Calls Tryd.prog 56 #[v, .int .i64 (m : Int)] w fun e w' => (∃ u, e = .returned (.tuple #[u, .int .i64 0]) ∧ SlAt w' 32 u (hcs (pathX (l.take n) (m : Int)))) ∧ Below w.heap.size w w' := by
  have h := path_any v (l.take n) (m : Int) w hS (by rw [List.length_take]; omega) hG
  rwa [show pathE (l.take n) (m : Int) = 0 by unfold pathE; rw [if_pos ⟨by omega, by rw [List.length_take]; omega⟩]] at h
set_option maxHeartbeats 4000000 in
theorem entries_arg (S : Src) (ve vl vh vf : Value) (r : Rq) (w : World) (hc : r.count < 1 ∨ 16 < r.count ∨ r.fr < 0) :
    Calls Tryd.prog 55 #[.agg (srcC ve vl vh vf), r.v] w fun e w' => AnsR w (entRp S r) e w' := by
  have hE : entRp S r = failRp r.id 2 := by unfold entRp; rw [if_pos hc]
  rw [hE]
  clear hE
  obtain ⟨id, kd, fr, ct, sz⟩ := r
  simp only at hc ⊢
  have F := hid (fun w0 => failed_any id 2 w0)
  have HC := hid hc
  clear hc
  go_enter Tryd.func55, Tryd.ntmps55
  go_upto_region 1 with fail
  refine wp_world (fun W => SrvW w W 59 (srcC ve vl vh vf) (Rq.cs ⟨id, kd, fr, ct, sz⟩)) (SrvW.new _ _ _ _) ?_
  intro w0 hW
  have HW := hid hW
  have r0 : w0.cell? ⟨w.heap.size + 1, 0, none⟩ = some (.int .i64 id) := Blk.cell hW.r 0
  have r2 : w0.cell? ⟨w.heap.size + 1, 2, none⟩ = some (.int .i64 fr) := Blk.cell hW.r 2
  have r3 : w0.cell? ⟨w.heap.size + 1, 3, none⟩ = some (.int .i64 ct) := Blk.cell hW.r 3
  clear hW
  by_cases c1 : ct < 1
  · have d1 : decide (ct < 1) = true := by simpa using c1
    clear c1
    go_wp2_with (first
      | (go_at_call 54; refine (F.out _).mono ?_; rintro e w9 ⟨rfl, hb9⟩)
      | ((with_reducible show wpList _ _ _ ({ dst := _, op := Op.store 68 _ _, type := _, pos := _, after := _, guard := _ } :: _) _ _); refine wpList_store_blk rfl 68 _ _ rfl (w.heap.size + 1 + 1) rfl (rpC (failRp id 2) nilS nilS nilS) rfl _ _ (HW.out.y.later hb9) rfl Tryd.sizeRpS (rpC_oneS _ _ _ _ rfl rfl rfl) ?_))
    refine bodyPost_ret (results_cell_row rfl _ _ (w.heap.size + 1 + 1) 68 _ (0, 0) _ rfl ((HW.out.y.later hb9).setRow) Tryd.underlying68 rfl Tryd.sizeRpS) rfl ?_
    exact ⟨_, _, _, [], rfl, failIn _ _ _, (bth HW.out.be hb9).setRow (by omega) _⟩
  · have d1 : decide (ct < 1) = false := by simpa using c1
    by_cases c2 : 16 < ct
    · have d2 : decide (16 < ct) = true := by simpa using c2
      clear c1 c2
      go_wp2_with (first
        | (go_at_call 54; refine (F.out _).mono ?_; rintro e w9 ⟨rfl, hb9⟩)
        | ((with_reducible show wpList _ _ _ ({ dst := _, op := Op.store 68 _ _, type := _, pos := _, after := _, guard := _ } :: _) _ _); refine wpList_store_blk rfl 68 _ _ rfl (w.heap.size + 1 + 1) rfl (rpC (failRp id 2) nilS nilS nilS) rfl _ _ (HW.out.y.later hb9) rfl Tryd.sizeRpS (rpC_oneS _ _ _ _ rfl rfl rfl) ?_))
      refine bodyPost_ret (results_cell_row rfl _ _ (w.heap.size + 1 + 1) 68 _ (0, 0) _ rfl ((HW.out.y.later hb9).setRow) Tryd.underlying68 rfl Tryd.sizeRpS) rfl ?_
      exact ⟨_, _, _, [], rfl, failIn _ _ _, (bth HW.out.be hb9).setRow (by omega) _⟩
    · have d2 : decide (16 < ct) = false := by simpa using c2
      have d3 : decide (fr < 0) = true := by have := HC.out; simp; omega
      clear c1 c2
      go_wp2_with (first
        | (go_at_call 54; refine (F.out _).mono ?_; rintro e w9 ⟨rfl, hb9⟩)
        | ((with_reducible show wpList _ _ _ ({ dst := _, op := Op.store 68 _ _, type := _, pos := _, after := _, guard := _ } :: _) _ _); refine wpList_store_blk rfl 68 _ _ rfl (w.heap.size + 1 + 1) rfl (rpC (failRp id 2) nilS nilS nilS) rfl _ _ (HW.out.y.later hb9) rfl Tryd.sizeRpS (rpC_oneS _ _ _ _ rfl rfl rfl) ?_))
      refine bodyPost_ret (results_cell_row rfl _ _ (w.heap.size + 1 + 1) 68 _ (0, 0) _ rfl ((HW.out.y.later hb9).setRow) Tryd.underlying68 rfl Tryd.sizeRpS) rfl ?_
      exact ⟨_, _, _, [], rfl, failIn _ _ _, (bth HW.out.be hb9).setRow (by omega) _⟩
set_option maxHeartbeats 8000000 in
theorem entries_range (S : Src) (ve vl vh vf : Value) (hd fd : List Sg) (r : Rq) (w : World) (hX : SrcIn w S ve vl vh vf hd fd) (hs : SrcSmall S) (hi : RqI r) (hn : ¬ (r.count < 1 ∨ 16 < r.count ∨ r.fr < 0)) (hc : sizeS S < r.size ∨ r.size < r.count ∨ r.size - r.count < r.fr) :
    Calls Tryd.prog 55 #[.agg (srcC ve vl vh vf), r.v] w fun e w' => AnsR w (entRp S r) e w' := by
  have hE : entRp S r = failRp r.id 82 := by unfold entRp; rw [if_neg hn, if_pos hc]
  rw [hE]
  clear hE
  have hsz := sizeS_in S
  have he1 := hs.e1
  have HX := hid hX; have HS := hid hs
  obtain ⟨id, kd, fr, ct, sz⟩ := r
  obtain ⟨_, _, i3, i4, i5⟩ := hi
  simp only at hc hn i3 i4 i5 ⊢
  have d1 : decide (ct < 1) = false := by simp; omega
  have d2 : decide (16 < ct) = false := by simp; omega
  have d3 : decide (fr < 0) = false := by simp; omega
  have F := hid (fun w0 => failed_any id 82 w0)
  have HC := hid hc
  have SZ := hid (fun w' (hb : Below w.heap.size w w') => ssize_any S ve vl vh vf hd fd w' (HX.out.below hb) HS.out)
  generalize sizeS S = n at *
  unfold inI at i3 i4 i5
  have hwp : ∀ x : Int, -9223372036854775808 ≤ x → x ≤ 9223372036854775807 → wrap64 x = x := fun x h1 h2 => by unfold wrap64; omega
  clear hX hs
  go_enter Tryd.func55, Tryd.ntmps55
  go_upto_region 1 with fail
  refine wp_world (fun W => SrvW w W 59 (srcC ve vl vh vf) (Rq.cs ⟨id, kd, fr, ct, sz⟩)) (SrvW.new _ _ _ _) ?_
  intro w0 hW
  have HW := hid hW
  have r0 : w0.cell? ⟨w.heap.size + 1, 0, none⟩ = some (.int .i64 id) := Blk.cell hW.r 0
  have r2 : w0.cell? ⟨w.heap.size + 1, 2, none⟩ = some (.int .i64 fr) := Blk.cell hW.r 2
  have r3 : w0.cell? ⟨w.heap.size + 1, 3, none⟩ = some (.int .i64 ct) := Blk.cell hW.r 3
  have CS := hid (fun q : Later w0 => SZ.out (lat q) (bth HW.out.be (lat_below q)))
  clear hW SZ
  go_upto_region 3 with fail
  clear r0 r2 r3
  by_cases c1 : n < sz
  · have e1 : decide (n < sz) = true := by simpa using c1
    clear c1 hc hn
    refine wp_region_later (by kernel_rfl) (by kernel_rfl) ?_
    repeat (first
      | go_big_quiet_skip
      | (refine wpQuiet_load_one rfl 3 _ rfl ⟨w.heap.size + 1, 0, none⟩ rfl (.int .i64 id) _ (by rintro _ ⟨q, rfl⟩; exact (Blk.cell (HW.out.later (lat_below q)).r 0)) Tryd.underlying3 rfl ?_; simp only [Act.put, List.setIfInBounds_toArray, List.set_cons_succ, List.set_cons_zero])
      | (refine wpQuiet_load_one rfl 3 _ rfl ⟨w.heap.size + 1, 2, none⟩ rfl (.int .i64 fr) _ (by rintro _ ⟨q, rfl⟩; exact (Blk.cell (HW.out.later (lat_below q)).r 2)) Tryd.underlying3 rfl ?_; simp only [Act.put, List.setIfInBounds_toArray, List.set_cons_succ, List.set_cons_zero])
      | (refine wpQuiet_load_one rfl 3 _ rfl ⟨w.heap.size + 1, 3, none⟩ rfl (.int .i64 ct) _ (by rintro _ ⟨q, rfl⟩; exact (Blk.cell (HW.out.later (lat_below q)).r 3)) Tryd.underlying3 rfl ?_; simp only [Act.put, List.setIfInBounds_toArray, List.set_cons_succ, List.set_cons_zero])
      | (refine wpQuiet_load_one rfl 3 _ rfl ⟨w.heap.size + 1, 4, none⟩ rfl (.int .i64 sz) _ (by rintro _ ⟨q, rfl⟩; exact (Blk.cell (HW.out.later (lat_below q)).r 4)) Tryd.underlying3 rfl ?_; simp only [Act.put, List.setIfInBounds_toArray, List.set_cons_succ, List.set_cons_zero])
      | (refine wpQuiet_load_aggG rfl 59 _ rfl ⟨w.heap.size, 0, none⟩ rfl (srcC ve vl vh vf) _ (by rintro _ ⟨q, rfl⟩; exact ((HW.out.later (lat_below q)).s.cells)) Tryd.underlying59 rfl Tryd.sizeSrc ?_; simp only [Act.put, List.setIfInBounds_toArray, List.set_cons_succ, List.set_cons_zero])
      | go_big_quiet_step ((first | (go_at_call 30; with_reducible exact calls_later (CS.out _)))))
    refine wpQuiet_nil ?_
    rintro _ ⟨q3, rfl⟩
    have hb3 := lat_below q3
    generalize lat q3 = w3 at *
    have HW := hid (HW.out.later hb3)
    have r0 : w3.cell? ⟨w.heap.size + 1, 0, none⟩ = some (.int .i64 id) := Blk.cell HW.out.r 0
    clear CS
    go_wp2_with (first
      | (go_at_call 54; refine (F.out _).mono ?_; rintro e w9 ⟨rfl, hb9⟩)
      | ((with_reducible show wpList _ _ _ ({ dst := _, op := Op.store 68 _ _, type := _, pos := _, after := _, guard := _ } :: _) _ _); refine wpList_store_blk rfl 68 _ _ rfl (w.heap.size + 1 + 1) rfl (rpC (failRp id 82) nilS nilS nilS) rfl _ _ (HW.out.y.later hb9) rfl Tryd.sizeRpS (rpC_oneS _ _ _ _ rfl rfl rfl) ?_))
    refine bodyPost_ret (results_cell_row rfl _ _ (w.heap.size + 1 + 1) 68 _ (0, 0) _ rfl ((HW.out.y.later hb9).setRow) Tryd.underlying68 rfl Tryd.sizeRpS) rfl ?_
    exact ⟨_, _, _, [], rfl, failIn _ _ _, (bth HW.out.be hb9).setRow (by omega) _⟩
  · have e1 : decide (n < sz) = false := by simpa using c1
    by_cases c2 : sz < ct
    · have e2 : decide (sz < ct) = true := by simpa using c2
      clear c1 c2 hc hn
      refine wp_region_later (by kernel_rfl) (by kernel_rfl) ?_
      repeat (first
        | go_big_quiet_skip
        | (refine wpQuiet_load_one rfl 3 _ rfl ⟨w.heap.size + 1, 0, none⟩ rfl (.int .i64 id) _ (by rintro _ ⟨q, rfl⟩; exact (Blk.cell (HW.out.later (lat_below q)).r 0)) Tryd.underlying3 rfl ?_; simp only [Act.put, List.setIfInBounds_toArray, List.set_cons_succ, List.set_cons_zero])
        | (refine wpQuiet_load_one rfl 3 _ rfl ⟨w.heap.size + 1, 2, none⟩ rfl (.int .i64 fr) _ (by rintro _ ⟨q, rfl⟩; exact (Blk.cell (HW.out.later (lat_below q)).r 2)) Tryd.underlying3 rfl ?_; simp only [Act.put, List.setIfInBounds_toArray, List.set_cons_succ, List.set_cons_zero])
        | (refine wpQuiet_load_one rfl 3 _ rfl ⟨w.heap.size + 1, 3, none⟩ rfl (.int .i64 ct) _ (by rintro _ ⟨q, rfl⟩; exact (Blk.cell (HW.out.later (lat_below q)).r 3)) Tryd.underlying3 rfl ?_; simp only [Act.put, List.setIfInBounds_toArray, List.set_cons_succ, List.set_cons_zero])
        | (refine wpQuiet_load_one rfl 3 _ rfl ⟨w.heap.size + 1, 4, none⟩ rfl (.int .i64 sz) _ (by rintro _ ⟨q, rfl⟩; exact (Blk.cell (HW.out.later (lat_below q)).r 4)) Tryd.underlying3 rfl ?_; simp only [Act.put, List.setIfInBounds_toArray, List.set_cons_succ, List.set_cons_zero])
        | (refine wpQuiet_load_aggG rfl 59 _ rfl ⟨w.heap.size, 0, none⟩ rfl (srcC ve vl vh vf) _ (by rintro _ ⟨q, rfl⟩; exact ((HW.out.later (lat_below q)).s.cells)) Tryd.underlying59 rfl Tryd.sizeSrc ?_; simp only [Act.put, List.setIfInBounds_toArray, List.set_cons_succ, List.set_cons_zero])
        | go_big_quiet_step ((first | (go_at_call 30; with_reducible exact calls_later (CS.out _)))))
      refine wpQuiet_nil ?_
      rintro _ ⟨q3, rfl⟩
      have hb3 := lat_below q3
      generalize lat q3 = w3 at *
      have HW := hid (HW.out.later hb3)
      have r0 : w3.cell? ⟨w.heap.size + 1, 0, none⟩ = some (.int .i64 id) := Blk.cell HW.out.r 0
      clear CS
      go_wp2_with (first
        | (go_at_call 54; refine (F.out _).mono ?_; rintro e w9 ⟨rfl, hb9⟩)
        | ((with_reducible show wpList _ _ _ ({ dst := _, op := Op.store 68 _ _, type := _, pos := _, after := _, guard := _ } :: _) _ _); refine wpList_store_blk rfl 68 _ _ rfl (w.heap.size + 1 + 1) rfl (rpC (failRp id 82) nilS nilS nilS) rfl _ _ (HW.out.y.later hb9) rfl Tryd.sizeRpS (rpC_oneS _ _ _ _ rfl rfl rfl) ?_))
      refine bodyPost_ret (results_cell_row rfl _ _ (w.heap.size + 1 + 1) 68 _ (0, 0) _ rfl ((HW.out.y.later hb9).setRow) Tryd.underlying68 rfl Tryd.sizeRpS) rfl ?_
      exact ⟨_, _, _, [], rfl, failIn _ _ _, (bth HW.out.be hb9).setRow (by omega) _⟩
    · have e2 : decide (sz < ct) = false := by simpa using c2
      obtain ⟨k, hk⟩ : ∃ k, sz - ct = k := ⟨_, rfl⟩
      have hw := hwp (sz - ct) (by omega) (by omega)
      have hw2 : IntKind.i64.wrap (sz - ct) = sz - ct := IntWalk.i64_in _ (by omega)
      rw [hk] at hw hw2
      have e3 : decide (k < fr) = true := by simp; omega
      clear c1 c2 hc hn
      refine wp_region_later (by kernel_rfl) (by kernel_rfl) ?_
      repeat (first
        | go_big_quiet_skip
        | (refine wpQuiet_load_one rfl 3 _ rfl ⟨w.heap.size + 1, 0, none⟩ rfl (.int .i64 id) _ (by rintro _ ⟨q, rfl⟩; exact (Blk.cell (HW.out.later (lat_below q)).r 0)) Tryd.underlying3 rfl ?_; simp only [Act.put, List.setIfInBounds_toArray, List.set_cons_succ, List.set_cons_zero])
        | (refine wpQuiet_load_one rfl 3 _ rfl ⟨w.heap.size + 1, 2, none⟩ rfl (.int .i64 fr) _ (by rintro _ ⟨q, rfl⟩; exact (Blk.cell (HW.out.later (lat_below q)).r 2)) Tryd.underlying3 rfl ?_; simp only [Act.put, List.setIfInBounds_toArray, List.set_cons_succ, List.set_cons_zero])
        | (refine wpQuiet_load_one rfl 3 _ rfl ⟨w.heap.size + 1, 3, none⟩ rfl (.int .i64 ct) _ (by rintro _ ⟨q, rfl⟩; exact (Blk.cell (HW.out.later (lat_below q)).r 3)) Tryd.underlying3 rfl ?_; simp only [Act.put, List.setIfInBounds_toArray, List.set_cons_succ, List.set_cons_zero])
        | (refine wpQuiet_load_one rfl 3 _ rfl ⟨w.heap.size + 1, 4, none⟩ rfl (.int .i64 sz) _ (by rintro _ ⟨q, rfl⟩; exact (Blk.cell (HW.out.later (lat_below q)).r 4)) Tryd.underlying3 rfl ?_; simp only [Act.put, List.setIfInBounds_toArray, List.set_cons_succ, List.set_cons_zero])
        | (refine wpQuiet_load_aggG rfl 59 _ rfl ⟨w.heap.size, 0, none⟩ rfl (srcC ve vl vh vf) _ (by rintro _ ⟨q, rfl⟩; exact ((HW.out.later (lat_below q)).s.cells)) Tryd.underlying59 rfl Tryd.sizeSrc ?_; simp only [Act.put, List.setIfInBounds_toArray, List.set_cons_succ, List.set_cons_zero])
        | go_big_quiet_step ((first | (go_at_call 30; with_reducible exact calls_later (CS.out _)))))
      refine wpQuiet_nil ?_
      rintro _ ⟨q3, rfl⟩
      have hb3 := lat_below q3
      generalize lat q3 = w3 at *
      have HW := hid (HW.out.later hb3)
      have r0 : w3.cell? ⟨w.heap.size + 1, 0, none⟩ = some (.int .i64 id) := Blk.cell HW.out.r 0
      clear CS
      go_wp2_with (first
        | (go_at_call 54; refine (F.out _).mono ?_; rintro e w9 ⟨rfl, hb9⟩)
        | ((with_reducible show wpList _ _ _ ({ dst := _, op := Op.store 68 _ _, type := _, pos := _, after := _, guard := _ } :: _) _ _); refine wpList_store_blk rfl 68 _ _ rfl (w.heap.size + 1 + 1) rfl (rpC (failRp id 82) nilS nilS nilS) rfl _ _ (HW.out.y.later hb9) rfl Tryd.sizeRpS (rpC_oneS _ _ _ _ rfl rfl rfl) ?_))
      refine bodyPost_ret (results_cell_row rfl _ _ (w.heap.size + 1 + 1) 68 _ (0, 0) _ rfl ((HW.out.y.later hb9).setRow) Tryd.underlying68 rfl Tryd.sizeRpS) rfl ?_
      exact ⟨_, _, _, [], rfl, failIn _ _ _, (bth HW.out.be hb9).setRow (by omega) _⟩
set_option maxHeartbeats 8000000 in
theorem entries_ok (S : Src) (ve vl vh vf : Value) (hd fd : List Sg) (r : Rq) (w : World) (hX : SrcIn w S ve vl vh vf hd fd) (hs : SrcSmall S) (hi : RqI r) (hn : ¬ (r.count < 1 ∨ 16 < r.count ∨ r.fr < 0)) (hc : ¬ (sizeS S < r.size ∨ r.size < r.count ∨ r.size - r.count < r.fr)) (hG : ShaG w) :
    Calls Tryd.prog 55 #[.agg (srcC ve vl vh vf), r.v] w fun e w' => AnsR w (entRp S r) e w' := by
  have hE : entRp S r = ⟨r.id, 3, 0, [], (S.entries.take (r.fr + r.count).toNat).drop r.fr.toNat, rprX (S.leaves.take r.size.toNat) (r.fr + r.count)⟩ := by unfold entRp; rw [if_neg hn, if_neg hc]
  rw [hE]
  clear hE
  have hsz := sizeS_in S
  have he1 := hs.e1; have hl1 := hs.l1
  obtain ⟨j0, hj0, hz0, hz1, hz2⟩ := info_parts Tryd.infoStrS
  obtain ⟨ea, eac, rfl, _⟩ := hX.entries.form
  obtain ⟨la, lac, rfl, _⟩ := hX.leaves.formH
  have HX := hid hX; have HS := hid hs; have HG := hid hG
  obtain ⟨id, kd, fr, ct, sz⟩ := r
  simp only at hc hn ⊢
  obtain ⟨f, rfl⟩ : ∃ f : Nat, fr = f := ⟨fr.toNat, by omega⟩
  obtain ⟨c, rfl⟩ : ∃ c : Nat, ct = c := ⟨ct.toNat, by omega⟩
  obtain ⟨n, rfl⟩ : ∃ n : Nat, sz = n := ⟨sz.toNat, by omega⟩
  obtain ⟨m, hm⟩ : ∃ m, f + c = m := ⟨_, rfl⟩
  obtain ⟨k, hk⟩ : ∃ k, n - c = k := ⟨_, rfl⟩
  have efc : (f : Int) + (c : Int) = (m : Int) := by omega
  have enc : (n : Int) - (c : Int) = (k : Int) := by omega
  rw [efc, Int.toNat_natCast, Int.toNat_natCast, Int.toNat_natCast]
  have hmn : m ≤ n := by omega
  have hnl : n ≤ S.leaves.length := by omega
  have hne : n ≤ S.entries.length := by omega
  have d1 : decide ((c : Int) < 1) = false := by simp; omega
  have d2 : decide ((16 : Int) < (c : Int)) = false := by simp; omega
  have d3 : decide ((f : Int) < 0) = false := by simp
  have e1 : decide (sizeS S < (n : Int)) = false := by simp; omega
  have e2 : decide (n < c) = false := by simp; omega
  have e3 : decide (k < f) = false := by simp; omega
  obtain ⟨a2, c2, hr2, hS2⟩ := hX.leaves.takeR 22 29 Tryd.underlying22 Tryd.sizeHash (n : Int) n rfl (by rw [hcs_length]; omega)
  rw [hcs_take] at hS2
  obtain ⟨a3, c3, hr3, hS3⟩ := SlAt.midR hX.entries 56 9 Tryd.underlying56 Tryd.sizeStrS (f : Int) (m : Int) f m rfl rfl (by omega) (by unfold scells; rw [List.length_map]; omega)
  rw [scells_take, scells_drop] at hS3
  have emf : m - f = c := by omega
  rw [emf] at hr3 hS3
  have hEl : ((S.entries.take m).drop f).length = c := by rw [List.length_drop, List.length_take]; omega
  have PP := hid (fun w' (hb : Below w.heap.size w w') => proofNat S.leaves (.slice a2 n c2) m n w' (by omega) hnl hmn (hS2.below hb (Nat.le_refl _)) (HG.out.later hb))
  have SZ := hid (fun w' (hb : Below w.heap.size w w') => ssize_any S (.slice ea S.entries.length eac) (.slice la S.leaves.length lac) vh vf hd fd w' (HX.out.below hb) HS.out)
  generalize rprX (S.leaves.take n) (m : Int) = PX at *
  generalize (S.entries.take m).drop f = EX at *
  generalize sizeS S = N at *
  have HS3 := hid hS3; have HEl := hid hEl
  have hc16 : c ≤ 16 := by omega
  have hn80 : n ≤ 80 := by omega
  have hm80 : m ≤ 80 := by omega
  clear hX hs hS2 hS3 hc hn hi hG emf hEl hm hk
  go_enter Tryd.func55, Tryd.ntmps55
  go_upto_region 1 with fail
  refine wp_world (fun W => SrvW w W 59 (srcC (.slice ea S.entries.length eac) (.slice la S.leaves.length lac) vh vf) (Rq.cs ⟨id, kd, f, c, n⟩)) (SrvW.new _ _ _ _) ?_
  intro w0 hW
  have HW := hid hW
  have r2 : w0.cell? ⟨w.heap.size + 1, 2, none⟩ = some (.int .i64 (f : Int)) := Blk.cell hW.r 2
  have r3 : w0.cell? ⟨w.heap.size + 1, 3, none⟩ = some (.int .i64 (c : Int)) := Blk.cell hW.r 3
  have CS := hid (fun q : Later w0 => SZ.out (lat q) (bth HW.out.be (lat_below q)))
  clear hW SZ
  go_upto_region 3 with fail
  clear r2 r3
  refine wp_region_later (by kernel_rfl) (by kernel_rfl) ?_
  repeat (first
    | go_big_quiet_skip
    | (refine wpQuiet_load_one rfl 3 _ rfl ⟨w.heap.size + 1, 0, none⟩ rfl (.int .i64 id) _ (by rintro _ ⟨q, rfl⟩; exact (Blk.cell (HW.out.later (lat_below q)).r 0)) Tryd.underlying3 rfl ?_; simp only [Act.put, List.setIfInBounds_toArray, List.set_cons_succ, List.set_cons_zero])
    | (refine wpQuiet_load_one rfl 3 _ rfl ⟨w.heap.size + 1, 2, none⟩ rfl (.int .i64 (f : Int)) _ (by rintro _ ⟨q, rfl⟩; exact (Blk.cell (HW.out.later (lat_below q)).r 2)) Tryd.underlying3 rfl ?_; simp only [Act.put, List.setIfInBounds_toArray, List.set_cons_succ, List.set_cons_zero])
    | (refine wpQuiet_load_one rfl 3 _ rfl ⟨w.heap.size + 1, 3, none⟩ rfl (.int .i64 (c : Int)) _ (by rintro _ ⟨q, rfl⟩; exact (Blk.cell (HW.out.later (lat_below q)).r 3)) Tryd.underlying3 rfl ?_; simp only [Act.put, List.setIfInBounds_toArray, List.set_cons_succ, List.set_cons_zero])
    | (refine wpQuiet_load_one rfl 3 _ rfl ⟨w.heap.size + 1, 4, none⟩ rfl (.int .i64 (n : Int)) _ (by rintro _ ⟨q, rfl⟩; exact (Blk.cell (HW.out.later (lat_below q)).r 4)) Tryd.underlying3 rfl ?_; simp only [Act.put, List.setIfInBounds_toArray, List.set_cons_succ, List.set_cons_zero])
    | (refine wpQuiet_load_aggG rfl 59 _ rfl ⟨w.heap.size, 0, none⟩ rfl (srcC (.slice ea S.entries.length eac) (.slice la S.leaves.length lac) vh vf) _ (by rintro _ ⟨q, rfl⟩; exact ((HW.out.later (lat_below q)).s.cells)) Tryd.underlying59 rfl Tryd.sizeSrc ?_; simp only [Act.put, List.setIfInBounds_toArray, List.set_cons_succ, List.set_cons_zero])
    | go_big_quiet_step ((first | (go_at_call 30; with_reducible exact calls_later (CS.out _)))))
  refine wpQuiet_nil ?_
  rintro _ ⟨q3, rfl⟩
  have hb3 := lat_below q3
  generalize lat q3 = w3 at *
  have HW := hid (HW.out.later hb3)
  clear CS hb3
  go_upto_region 5 with fail
  refine wp_region_anyC (by kernel_rfl) ?_
  intro x0 he0 hbx0
  have Hc0 := hid hbx0
  clear hbx0 he0
  show wpAnyC _ _ _ _ _ 16 (Array.replicate 16 false) _ _
  refine wpAnyC_take (i := 0) (v := .pointer (some ⟨w.heap.size, 1, none⟩)) rfl (by kernel_rfl) (by kernel_rfl) (by kernel_rfl) (fun _ _ _ h => h) (Or.inl ⟨by kernel_rfl, ?_⟩) ?_
  · intro w _
    go_simp
    try exact IntWalk.i64_in _ (by omega)
    try omega
  (first | dsimp only [List.getElem_toArray, List.getElem_cons_succ, List.getElem_cons_zero] | dsimp (maxSteps := 10000000) only [List.getElem_toArray, List.getElem_cons_succ, List.getElem_cons_zero] | skip); (first | go_frame | simp (maxSteps := 10000000) only [Act.put, List.setIfInBounds_toArray, List.set_cons_succ, List.set_cons_zero] | skip)
  refine wpAnyC_take (i := 1) (v := .slice la S.leaves.length lac) rfl (by kernel_rfl) (by kernel_rfl) (by kernel_rfl) (fun _ _ _ h => h) (YieldsW.load_one (by kernel_rfl) 22 _ rfl ⟨w.heap.size, 1, none⟩ (by kernel_rfl) (.slice la S.leaves.length lac) _ (fun _ hw => Blk.cell (HW.out.later hw).s 1) Tryd.underlying22 rfl) ?_
  (first | dsimp only [List.getElem_toArray, List.getElem_cons_succ, List.getElem_cons_zero] | dsimp (maxSteps := 10000000) only [List.getElem_toArray, List.getElem_cons_succ, List.getElem_cons_zero] | skip); (first | go_frame | simp (maxSteps := 10000000) only [Act.put, List.setIfInBounds_toArray, List.set_cons_succ, List.set_cons_zero] | skip)
  refine wpAnyC_take (i := 2) (v := .pointer (some ⟨w.heap.size + 1, 4, none⟩)) rfl (by kernel_rfl) (by kernel_rfl) (by kernel_rfl) (fun _ _ _ h => h) (Or.inl ⟨by kernel_rfl, ?_⟩) ?_
  · intro w _
    go_simp
    try exact IntWalk.i64_in _ (by omega)
    try omega
  (first | dsimp only [List.getElem_toArray, List.getElem_cons_succ, List.getElem_cons_zero] | dsimp (maxSteps := 10000000) only [List.getElem_toArray, List.getElem_cons_succ, List.getElem_cons_zero] | skip); (first | go_frame | simp (maxSteps := 10000000) only [Act.put, List.setIfInBounds_toArray, List.set_cons_succ, List.set_cons_zero] | skip)
  refine wpAnyC_take (i := 3) (v := .int .i64 (n : Int)) rfl (by kernel_rfl) (by kernel_rfl) (by kernel_rfl) (fun _ _ _ h => h) (YieldsW.load_one (by kernel_rfl) 3 _ rfl ⟨w.heap.size + 1, 4, none⟩ (by kernel_rfl) (.int .i64 (n : Int)) _ (fun _ hw => Blk.cell (HW.out.later hw).r 4) Tryd.underlying3 rfl) ?_
  (first | dsimp only [List.getElem_toArray, List.getElem_cons_succ, List.getElem_cons_zero] | dsimp (maxSteps := 10000000) only [List.getElem_toArray, List.getElem_cons_succ, List.getElem_cons_zero] | skip); (first | go_frame | simp (maxSteps := 10000000) only [Act.put, List.setIfInBounds_toArray, List.set_cons_succ, List.set_cons_zero] | skip)
  refine wpAnyC_take (i := 4) (v := .slice a2 n c2) rfl (by kernel_rfl) (by kernel_rfl) (by kernel_rfl) (fun _ _ _ h => h) (Or.inl ⟨by kernel_rfl, ?_⟩) ?_
  · intro w _
    go_simp
    try exact IntWalk.i64_in _ (by omega)
    try omega
  (first | dsimp only [List.getElem_toArray, List.getElem_cons_succ, List.getElem_cons_zero] | dsimp (maxSteps := 10000000) only [List.getElem_toArray, List.getElem_cons_succ, List.getElem_cons_zero] | skip); (first | go_frame | simp (maxSteps := 10000000) only [Act.put, List.setIfInBounds_toArray, List.set_cons_succ, List.set_cons_zero] | skip)
  refine wpAnyC_take (i := 5) (v := .pointer (some ⟨w.heap.size + 1, 2, none⟩)) rfl (by kernel_rfl) (by kernel_rfl) (by kernel_rfl) (fun _ _ _ h => h) (Or.inl ⟨by kernel_rfl, ?_⟩) ?_
  · intro w _
    go_simp
    try exact IntWalk.i64_in _ (by omega)
    try omega
  (first | dsimp only [List.getElem_toArray, List.getElem_cons_succ, List.getElem_cons_zero] | dsimp (maxSteps := 10000000) only [List.getElem_toArray, List.getElem_cons_succ, List.getElem_cons_zero] | skip); (first | go_frame | simp (maxSteps := 10000000) only [Act.put, List.setIfInBounds_toArray, List.set_cons_succ, List.set_cons_zero] | skip)
  refine wpAnyC_take (i := 6) (v := .int .i64 (f : Int)) rfl (by kernel_rfl) (by kernel_rfl) (by kernel_rfl) (fun _ _ _ h => h) (YieldsW.load_one (by kernel_rfl) 3 _ rfl ⟨w.heap.size + 1, 2, none⟩ (by kernel_rfl) (.int .i64 (f : Int)) _ (fun _ hw => Blk.cell (HW.out.later hw).r 2) Tryd.underlying3 rfl) ?_
  (first | dsimp only [List.getElem_toArray, List.getElem_cons_succ, List.getElem_cons_zero] | dsimp (maxSteps := 10000000) only [List.getElem_toArray, List.getElem_cons_succ, List.getElem_cons_zero] | skip); (first | go_frame | simp (maxSteps := 10000000) only [Act.put, List.setIfInBounds_toArray, List.set_cons_succ, List.set_cons_zero] | skip)
  refine wpAnyC_take (i := 7) (v := .pointer (some ⟨w.heap.size + 1, 3, none⟩)) rfl (by kernel_rfl) (by kernel_rfl) (by kernel_rfl) (fun _ _ _ h => h) (Or.inl ⟨by kernel_rfl, ?_⟩) ?_
  · intro w _
    go_simp
    try exact IntWalk.i64_in _ (by omega)
    try omega
  (first | dsimp only [List.getElem_toArray, List.getElem_cons_succ, List.getElem_cons_zero] | dsimp (maxSteps := 10000000) only [List.getElem_toArray, List.getElem_cons_succ, List.getElem_cons_zero] | skip); (first | go_frame | simp (maxSteps := 10000000) only [Act.put, List.setIfInBounds_toArray, List.set_cons_succ, List.set_cons_zero] | skip)
  refine wpAnyC_take (i := 8) (v := .int .i64 (c : Int)) rfl (by kernel_rfl) (by kernel_rfl) (by kernel_rfl) (fun _ _ _ h => h) (YieldsW.load_one (by kernel_rfl) 3 _ rfl ⟨w.heap.size + 1, 3, none⟩ (by kernel_rfl) (.int .i64 (c : Int)) _ (fun _ hw => Blk.cell (HW.out.later hw).r 3) Tryd.underlying3 rfl) ?_
  (first | dsimp only [List.getElem_toArray, List.getElem_cons_succ, List.getElem_cons_zero] | dsimp (maxSteps := 10000000) only [List.getElem_toArray, List.getElem_cons_succ, List.getElem_cons_zero] | skip); (first | go_frame | simp (maxSteps := 10000000) only [Act.put, List.setIfInBounds_toArray, List.set_cons_succ, List.set_cons_zero] | skip)
  refine wpAnyC_take (i := 9) (v := .int .i64 (m : Int)) rfl (by kernel_rfl) (by kernel_rfl) (by kernel_rfl) (fun _ _ _ h => h) (Or.inl ⟨by kernel_rfl, ?_⟩) ?_
  · intro w _
    go_simp
    try exact IntWalk.i64_in _ (by omega)
    try omega
  (first | dsimp only [List.getElem_toArray, List.getElem_cons_succ, List.getElem_cons_zero] | dsimp (maxSteps := 10000000) only [List.getElem_toArray, List.getElem_cons_succ, List.getElem_cons_zero] | skip); (first | go_frame | simp (maxSteps := 10000000) only [Act.put, List.setIfInBounds_toArray, List.set_cons_succ, List.set_cons_zero] | skip)
  refine wpAnyC_forced (i := 10) (by kernel_rfl) rfl (Hc0.out) ?_
  (first | dsimp only [List.getElem_toArray, List.getElem_cons_succ, List.getElem_cons_zero] | dsimp (maxSteps := 10000000) only [List.getElem_toArray, List.getElem_cons_succ, List.getElem_cons_zero] | skip); (first | go_frame | simp (maxSteps := 10000000) only [Act.put, List.setIfInBounds_toArray, List.set_cons_succ, List.set_cons_zero] | skip)
  go_wp2_with (go_at_call 58; refine (PP.out _ (bth HW.out.be Hc0.out)).mono ?_; rintro e w5 ⟨⟨p5, rfl, hp5⟩, hb5⟩)
  show wpAnyC _ _ _ _ _ _ _ _ _
  (first | dsimp only [List.getElem_toArray, List.getElem_cons_succ, List.getElem_cons_zero] | dsimp (maxSteps := 10000000) only [List.getElem_toArray, List.getElem_cons_succ, List.getElem_cons_zero] | skip); (first | go_frame | simp (maxSteps := 10000000) only [Act.put, List.setIfInBounds_toArray, List.set_cons_succ, List.set_cons_zero] | skip)
  have Hc5 := hid (bth Hc0.out hb5)
  have HW := hid (HW.out.later Hc5.out)
  clear hb5 Hc0
  obtain ⟨pa, pc, rfl, _⟩ := hp5.formH
  refine wpAnyC_take (i := 11) (v := .tuple #[.slice pa PX.length pc, .int .i64 0]) rfl (by kernel_rfl) (by kernel_rfl) (by kernel_rfl) (fun _ _ _ h => h) (Or.inl ⟨by kernel_rfl, ?_⟩) ?_
  · intro w _
    go_simp
    try exact IntWalk.i64_in _ (by omega)
    try omega
  (first | dsimp only [List.getElem_toArray, List.getElem_cons_succ, List.getElem_cons_zero] | dsimp (maxSteps := 10000000) only [List.getElem_toArray, List.getElem_cons_succ, List.getElem_cons_zero] | skip); (first | go_frame | simp (maxSteps := 10000000) only [Act.put, List.setIfInBounds_toArray, List.set_cons_succ, List.set_cons_zero] | skip)
  refine wpAnyC_take (i := 12) (v := .slice pa PX.length pc) rfl (by kernel_rfl) (by kernel_rfl) (by kernel_rfl) (fun _ _ _ h => h) (Or.inl ⟨by kernel_rfl, ?_⟩) ?_
  · intro w _
    go_simp
    try exact IntWalk.i64_in _ (by omega)
    try omega
  (first | dsimp only [List.getElem_toArray, List.getElem_cons_succ, List.getElem_cons_zero] | dsimp (maxSteps := 10000000) only [List.getElem_toArray, List.getElem_cons_succ, List.getElem_cons_zero] | skip); (first | go_frame | simp (maxSteps := 10000000) only [Act.put, List.setIfInBounds_toArray, List.set_cons_succ, List.set_cons_zero] | skip)
  refine wpAnyC_take (i := 13) (v := .int .i64 0) rfl (by kernel_rfl) (by kernel_rfl) (by kernel_rfl) (fun _ _ _ h => h) (Or.inl ⟨by kernel_rfl, ?_⟩) ?_
  · intro w _
    go_simp
    try exact IntWalk.i64_in _ (by omega)
    try omega
  (first | dsimp only [List.getElem_toArray, List.getElem_cons_succ, List.getElem_cons_zero] | dsimp (maxSteps := 10000000) only [List.getElem_toArray, List.getElem_cons_succ, List.getElem_cons_zero] | skip); (first | go_frame | simp (maxSteps := 10000000) only [Act.put, List.setIfInBounds_toArray, List.set_cons_succ, List.set_cons_zero] | skip)
  refine wpAnyC_take (i := 14) (v := .slice pa PX.length pc) rfl (by kernel_rfl) (by kernel_rfl) (by kernel_rfl) (fun _ _ _ h => h) (Or.inl ⟨by kernel_rfl, ?_⟩) ?_
  · intro w _
    go_simp
    try exact IntWalk.i64_in _ (by omega)
    try omega
  (first | dsimp only [List.getElem_toArray, List.getElem_cons_succ, List.getElem_cons_zero] | dsimp (maxSteps := 10000000) only [List.getElem_toArray, List.getElem_cons_succ, List.getElem_cons_zero] | skip); (first | go_frame | simp (maxSteps := 10000000) only [Act.put, List.setIfInBounds_toArray, List.set_cons_succ, List.set_cons_zero] | skip)
  refine wpAnyC_take (i := 15) (v := .int .i64 0) rfl (by kernel_rfl) (by kernel_rfl) (by kernel_rfl) (fun _ _ _ h => h) (Or.inl ⟨by kernel_rfl, ?_⟩) ?_
  · intro w _
    go_simp
    try exact IntWalk.i64_in _ (by omega)
    try omega
  (first | dsimp only [List.getElem_toArray, List.getElem_cons_succ, List.getElem_cons_zero] | dsimp (maxSteps := 10000000) only [List.getElem_toArray, List.getElem_cons_succ, List.getElem_cons_zero] | skip); (first | go_frame | simp (maxSteps := 10000000) only [Act.put, List.setIfInBounds_toArray, List.set_cons_succ, List.set_cons_zero] | skip)
  refine wpAnyC_done (by kernel_rfl) Hc5.out ?_ _
  (first | dsimp only [List.getElem_toArray, List.getElem_cons_succ, List.getElem_cons_zero] | dsimp (maxSteps := 10000000) only [List.getElem_toArray, List.getElem_cons_succ, List.getElem_cons_zero] | skip); (first | go_frame | simp (maxSteps := 10000000) only [Act.put, List.setIfInBounds_toArray, List.set_cons_succ, List.set_cons_zero] | skip)
  go_upto_region 6 with fail
  have HP5 := hid hp5
  clear hp5 PP
  refine wp_region_anyK 16 (fun w' => Below w5.heap.size w5 w') (by kernel_rfl) ?_
  intro x0 he0 hbx0
  have Hc0 := hid hbx0
  clear hbx0 he0
  show wpAnyK _ _ _ _ _ _ 17 (Array.replicate 17 false) _ _
  refine wpAnyK_take (i := 0) (v := .pointer (some ⟨w.heap.size + 1, 0, none⟩)) rfl (by kernel_rfl) (by kernel_rfl) (by kernel_rfl) (fun _ _ _ h => h) (by kernel_rfl) (Or.inl ⟨by kernel_rfl, ?_⟩) ?_
  · intro w _
    go_simp
    try exact IntWalk.i64_in _ (by omega)
    try omega
  (first | dsimp only [List.getElem_toArray, List.getElem_cons_succ, List.getElem_cons_zero] | dsimp (maxSteps := 10000000) only [List.getElem_toArray, List.getElem_cons_succ, List.getElem_cons_zero] | skip); (first | go_frame | simp (maxSteps := 10000000) only [Act.put, List.setIfInBounds_toArray, List.set_cons_succ, List.set_cons_zero] | skip)
  refine wpAnyK_take (i := 1) (v := .int .i64 id) rfl (by kernel_rfl) (by kernel_rfl) (by kernel_rfl) (fun _ _ _ h => h) (by kernel_rfl) (YieldsW.load_one (by kernel_rfl) 3 _ rfl ⟨w.heap.size + 1, 0, none⟩ (by kernel_rfl) (.int .i64 id) _ (fun _ hw => Blk.cell (HW.out.later hw).r 0) Tryd.underlying3 rfl) ?_
  (first | dsimp only [List.getElem_toArray, List.getElem_cons_succ, List.getElem_cons_zero] | dsimp (maxSteps := 10000000) only [List.getElem_toArray, List.getElem_cons_succ, List.getElem_cons_zero] | skip); (first | go_frame | simp (maxSteps := 10000000) only [Act.put, List.setIfInBounds_toArray, List.set_cons_succ, List.set_cons_zero] | skip)
  refine wpAnyK_take (i := 2) (v := .pointer (some ⟨w.heap.size, 0, none⟩)) rfl (by kernel_rfl) (by kernel_rfl) (by kernel_rfl) (fun _ _ _ h => h) (by kernel_rfl) (Or.inl ⟨by kernel_rfl, ?_⟩) ?_
  · intro w _
    go_simp
    try exact IntWalk.i64_in _ (by omega)
    try omega
  (first | dsimp only [List.getElem_toArray, List.getElem_cons_succ, List.getElem_cons_zero] | dsimp (maxSteps := 10000000) only [List.getElem_toArray, List.getElem_cons_succ, List.getElem_cons_zero] | skip); (first | go_frame | simp (maxSteps := 10000000) only [Act.put, List.setIfInBounds_toArray, List.set_cons_succ, List.set_cons_zero] | skip)
  refine wpAnyK_take (i := 3) (v := .slice ea S.entries.length eac) rfl (by kernel_rfl) (by kernel_rfl) (by kernel_rfl) (fun _ _ _ h => h) (by kernel_rfl) (YieldsW.load_one (by kernel_rfl) 56 _ rfl ⟨w.heap.size, 0, none⟩ (by kernel_rfl) (.slice ea S.entries.length eac) _ (fun _ hw => Blk.cell (HW.out.later hw).s 0) Tryd.underlying56 rfl) ?_
  (first | dsimp only [List.getElem_toArray, List.getElem_cons_succ, List.getElem_cons_zero] | dsimp (maxSteps := 10000000) only [List.getElem_toArray, List.getElem_cons_succ, List.getElem_cons_zero] | skip); (first | go_frame | simp (maxSteps := 10000000) only [Act.put, List.setIfInBounds_toArray, List.set_cons_succ, List.set_cons_zero] | skip)
  refine wpAnyK_take (i := 4) (v := .pointer (some ⟨w.heap.size + 1, 2, none⟩)) rfl (by kernel_rfl) (by kernel_rfl) (by kernel_rfl) (fun _ _ _ h => h) (by kernel_rfl) (Or.inl ⟨by kernel_rfl, ?_⟩) ?_
  · intro w _
    go_simp
    try exact IntWalk.i64_in _ (by omega)
    try omega
  (first | dsimp only [List.getElem_toArray, List.getElem_cons_succ, List.getElem_cons_zero] | dsimp (maxSteps := 10000000) only [List.getElem_toArray, List.getElem_cons_succ, List.getElem_cons_zero] | skip); (first | go_frame | simp (maxSteps := 10000000) only [Act.put, List.setIfInBounds_toArray, List.set_cons_succ, List.set_cons_zero] | skip)
  refine wpAnyK_take (i := 5) (v := .int .i64 (f : Int)) rfl (by kernel_rfl) (by kernel_rfl) (by kernel_rfl) (fun _ _ _ h => h) (by kernel_rfl) (YieldsW.load_one (by kernel_rfl) 3 _ rfl ⟨w.heap.size + 1, 2, none⟩ (by kernel_rfl) (.int .i64 (f : Int)) _ (fun _ hw => Blk.cell (HW.out.later hw).r 2) Tryd.underlying3 rfl) ?_
  (first | dsimp only [List.getElem_toArray, List.getElem_cons_succ, List.getElem_cons_zero] | dsimp (maxSteps := 10000000) only [List.getElem_toArray, List.getElem_cons_succ, List.getElem_cons_zero] | skip); (first | go_frame | simp (maxSteps := 10000000) only [Act.put, List.setIfInBounds_toArray, List.set_cons_succ, List.set_cons_zero] | skip)
  refine wpAnyK_take (i := 6) (v := .pointer (some ⟨w.heap.size + 1, 2, none⟩)) rfl (by kernel_rfl) (by kernel_rfl) (by kernel_rfl) (fun _ _ _ h => h) (by kernel_rfl) (Or.inl ⟨by kernel_rfl, ?_⟩) ?_
  · intro w _
    go_simp
    try exact IntWalk.i64_in _ (by omega)
    try omega
  (first | dsimp only [List.getElem_toArray, List.getElem_cons_succ, List.getElem_cons_zero] | dsimp (maxSteps := 10000000) only [List.getElem_toArray, List.getElem_cons_succ, List.getElem_cons_zero] | skip); (first | go_frame | simp (maxSteps := 10000000) only [Act.put, List.setIfInBounds_toArray, List.set_cons_succ, List.set_cons_zero] | skip)
  refine wpAnyK_take (i := 7) (v := .int .i64 (f : Int)) rfl (by kernel_rfl) (by kernel_rfl) (by kernel_rfl) (fun _ _ _ h => h) (by kernel_rfl) (YieldsW.load_one (by kernel_rfl) 3 _ rfl ⟨w.heap.size + 1, 2, none⟩ (by kernel_rfl) (.int .i64 (f : Int)) _ (fun _ hw => Blk.cell (HW.out.later hw).r 2) Tryd.underlying3 rfl) ?_
  (first | dsimp only [List.getElem_toArray, List.getElem_cons_succ, List.getElem_cons_zero] | dsimp (maxSteps := 10000000) only [List.getElem_toArray, List.getElem_cons_succ, List.getElem_cons_zero] | skip); (first | go_frame | simp (maxSteps := 10000000) only [Act.put, List.setIfInBounds_toArray, List.set_cons_succ, List.set_cons_zero] | skip)
  refine wpAnyK_take (i := 8) (v := .pointer (some ⟨w.heap.size + 1, 3, none⟩)) rfl (by kernel_rfl) (by kernel_rfl) (by kernel_rfl) (fun _ _ _ h => h) (by kernel_rfl) (Or.inl ⟨by kernel_rfl, ?_⟩) ?_
  · intro w _
    go_simp
    try exact IntWalk.i64_in _ (by omega)
    try omega
  (first | dsimp only [List.getElem_toArray, List.getElem_cons_succ, List.getElem_cons_zero] | dsimp (maxSteps := 10000000) only [List.getElem_toArray, List.getElem_cons_succ, List.getElem_cons_zero] | skip); (first | go_frame | simp (maxSteps := 10000000) only [Act.put, List.setIfInBounds_toArray, List.set_cons_succ, List.set_cons_zero] | skip)
  refine wpAnyK_take (i := 9) (v := .int .i64 (c : Int)) rfl (by kernel_rfl) (by kernel_rfl) (by kernel_rfl) (fun _ _ _ h => h) (by kernel_rfl) (YieldsW.load_one (by kernel_rfl) 3 _ rfl ⟨w.heap.size + 1, 3, none⟩ (by kernel_rfl) (.int .i64 (c : Int)) _ (fun _ hw => Blk.cell (HW.out.later hw).r 3) Tryd.underlying3 rfl) ?_
  (first | dsimp only [List.getElem_toArray, List.getElem_cons_succ, List.getElem_cons_zero] | dsimp (maxSteps := 10000000) only [List.getElem_toArray, List.getElem_cons_succ, List.getElem_cons_zero] | skip); (first | go_frame | simp (maxSteps := 10000000) only [Act.put, List.setIfInBounds_toArray, List.set_cons_succ, List.set_cons_zero] | skip)
  refine wpAnyK_take (i := 10) (v := .int .i64 (m : Int)) rfl (by kernel_rfl) (by kernel_rfl) (by kernel_rfl) (fun _ _ _ h => h) (by kernel_rfl) (Or.inl ⟨by kernel_rfl, ?_⟩) ?_
  · intro w _
    go_simp
    try exact IntWalk.i64_in _ (by omega)
    try omega
  (first | dsimp only [List.getElem_toArray, List.getElem_cons_succ, List.getElem_cons_zero] | dsimp (maxSteps := 10000000) only [List.getElem_toArray, List.getElem_cons_succ, List.getElem_cons_zero] | skip); (first | go_frame | simp (maxSteps := 10000000) only [Act.put, List.setIfInBounds_toArray, List.set_cons_succ, List.set_cons_zero] | skip)
  refine wpAnyK_take (i := 11) (v := .slice a3 c c3) rfl (by kernel_rfl) (by kernel_rfl) (by kernel_rfl) (fun _ _ _ h => h) (by kernel_rfl) (Or.inl ⟨by kernel_rfl, ?_⟩) ?_
  · intro w _
    go_simp
    try exact IntWalk.i64_in _ (by omega)
    try omega
  (first | dsimp only [List.getElem_toArray, List.getElem_cons_succ, List.getElem_cons_zero] | dsimp (maxSteps := 10000000) only [List.getElem_toArray, List.getElem_cons_succ, List.getElem_cons_zero] | skip); (first | go_frame | simp (maxSteps := 10000000) only [Act.put, List.setIfInBounds_toArray, List.set_cons_succ, List.set_cons_zero] | skip)
  refine wpAnyK_take (i := 13) (v := .slice pa PX.length pc) rfl (by kernel_rfl) (by kernel_rfl) (by kernel_rfl) (fun _ _ _ h => h) (by kernel_rfl) (Or.inl ⟨by kernel_rfl, ?_⟩) ?_
  · intro w _
    go_simp
    try exact IntWalk.i64_in _ (by omega)
    try omega
  (first | dsimp only [List.getElem_toArray, List.getElem_cons_succ, List.getElem_cons_zero] | dsimp (maxSteps := 10000000) only [List.getElem_toArray, List.getElem_cons_succ, List.getElem_cons_zero] | skip); (first | go_frame | simp (maxSteps := 10000000) only [Act.put, List.setIfInBounds_toArray, List.set_cons_succ, List.set_cons_zero] | skip)
  refine wpAnyK_take (i := 14) (v := .int .i64 0) rfl (by kernel_rfl) (by kernel_rfl) (by kernel_rfl) (fun _ _ _ h => h) (by kernel_rfl) (Or.inl ⟨by kernel_rfl, ?_⟩) ?_
  · intro w _
    go_simp
    try exact IntWalk.i64_in _ (by omega)
    try omega
  (first | dsimp only [List.getElem_toArray, List.getElem_cons_succ, List.getElem_cons_zero] | dsimp (maxSteps := 10000000) only [List.getElem_toArray, List.getElem_cons_succ, List.getElem_cons_zero] | skip); (first | go_frame | simp (maxSteps := 10000000) only [Act.put, List.setIfInBounds_toArray, List.set_cons_succ, List.set_cons_zero] | skip)
  refine wpAnyK_forced (i := 12) (by kernel_rfl) rfl (fun _ => Hc0.out) ?_
  (first | dsimp only [List.getElem_toArray, List.getElem_cons_succ, List.getElem_cons_zero] | dsimp (maxSteps := 10000000) only [List.getElem_toArray, List.getElem_cons_succ, List.getElem_cons_zero] | skip); (first | go_frame | simp (maxSteps := 10000000) only [Act.put, List.setIfInBounds_toArray, List.set_cons_succ, List.set_cons_zero] | skip)
  refine wpList_cloneS rfl _ _ 56 rfl 9 j0 (.string ⟨#[]⟩) 1 16 Tryd.underlying56 hj0 hz0 hz1 hz2 rfl (by decide) rfl a3 c c3 rfl (scells EX) (by unfold scells; rw [List.length_map]; exact HEl.out) (HS3.out.below (bth HW.out.be Hc0.out) (Nat.le_refl _)) (by rw [scells_flat]; intro u hu; obtain ⟨x, _, rfl⟩ := List.mem_map.1 hu; rfl) (by unfold maxLen; omega) (by omega) ?_
  intro v6 w6 hown6 hb6
  rw [scells_flat] at hown6
  obtain ⟨va, vc, rfl, _⟩ := ownsRow_form hown6
  have Hc6 := hid (bth Hc0.out hb6)
  have Hown6 := hid hown6
  clear hown6 hb6
  refine wpList_nil ?_
  show wpAnyK _ _ _ _ _ _ _ _ _ _
  (first | dsimp only [List.getElem_toArray, List.getElem_cons_succ, List.getElem_cons_zero] | dsimp (maxSteps := 10000000) only [List.getElem_toArray, List.getElem_cons_succ, List.getElem_cons_zero] | skip); (first | go_frame | simp (maxSteps := 10000000) only [Act.put, List.setIfInBounds_toArray, List.set_cons_succ, List.set_cons_zero] | skip)
  refine wpAnyK_forced (i := 15) (by kernel_rfl) rfl (fun _ => Hc6.out) ?_
  (first | dsimp only [List.getElem_toArray, List.getElem_cons_succ, List.getElem_cons_zero] | dsimp (maxSteps := 10000000) only [List.getElem_toArray, List.getElem_cons_succ, List.getElem_cons_zero] | skip); (first | go_frame | simp (maxSteps := 10000000) only [Act.put, List.setIfInBounds_toArray, List.set_cons_succ, List.set_cons_zero] | skip)
  go_wp2_with (go_at_call 57; refine (proved_ok id 3 EX PX va pa c PX.length vc pc _).mono ?_; rintro e w7 ⟨rfl, hb7⟩)
  show wpAnyK _ _ _ _ _ _ _ _ _ _
  (first | dsimp only [List.getElem_toArray, List.getElem_cons_succ, List.getElem_cons_zero] | dsimp (maxSteps := 10000000) only [List.getElem_toArray, List.getElem_cons_succ, List.getElem_cons_zero] | skip); (first | go_frame | simp (maxSteps := 10000000) only [Act.put, List.setIfInBounds_toArray, List.set_cons_succ, List.set_cons_zero] | skip)
  have Hc7 := hid (bth Hc6.out hb7)
  have HW7 := hid (HW.out.later Hc7.out)
  have Hown7 := hid (Hown6.out.later hb7)
  have HP7 := hid (HP5.out.below Hc7.out (Nat.le_refl _))
  have Hx0 := hid (show w.heap.size + 1 + 1 < x0.heap.size from Nat.lt_of_lt_of_le HW.out.y.lt Hc0.out.size)
  clear hb7 Hown6 HP5 Hc6 Hc0
  refine wpAnyK_forced (i := 16) (by kernel_rfl) rfl (fun _ => Hc7.out) ?_
  (first | dsimp only [List.getElem_toArray, List.getElem_cons_succ, List.getElem_cons_zero] | dsimp (maxSteps := 10000000) only [List.getElem_toArray, List.getElem_cons_succ, List.getElem_cons_zero] | skip); (first | go_frame | simp (maxSteps := 10000000) only [Act.put, List.setIfInBounds_toArray, List.set_cons_succ, List.set_cons_zero] | skip)
  refine wpList_store_blk rfl 68 _ _ rfl (w.heap.size + 1 + 1) rfl (rpC ⟨id, 3, 0, [], EX, PX⟩ nilS (.slice va c vc) (.slice pa PX.length pc)) rfl _ _ HW7.out.y rfl Tryd.sizeRpS (rpC_oneS _ _ _ _ rfl rfl rfl) ?_
  refine wpList_nil ?_
  show wpAnyK _ _ _ _ _ _ _ _ _ _
  (first | dsimp only [List.getElem_toArray, List.getElem_cons_succ, List.getElem_cons_zero] | dsimp (maxSteps := 10000000) only [List.getElem_toArray, List.getElem_cons_succ, List.getElem_cons_zero] | skip); (first | go_frame | simp (maxSteps := 10000000) only [Act.put, List.setIfInBounds_toArray, List.set_cons_succ, List.set_cons_zero] | skip)
  refine wpAnyK_done (by kernel_rfl) (by kernel_rfl) ?_ _
  (first | dsimp only [List.getElem_toArray, List.getElem_cons_succ, List.getElem_cons_zero] | dsimp (maxSteps := 10000000) only [List.getElem_toArray, List.getElem_cons_succ, List.getElem_cons_zero] | skip); (first | go_frame | simp (maxSteps := 10000000) only [Act.put, List.setIfInBounds_toArray, List.set_cons_succ, List.set_cons_zero] | skip)
  have HY8 := hid (HW7.out.y.setRow (cs' := rpC ⟨id, 3, 0, [], EX, PX⟩ nilS (.slice va c vc) (.slice pa PX.length pc)))
  have HB8 := hid (HW7.out.be.setRow (g := w.heap.size + 1 + 1) (by omega) (rpC ⟨id, 3, 0, [], EX, PX⟩ nilS (.slice va c vc) (.slice pa PX.length pc)))
  have Hown8 := hid (Hown7.out.setB (g := w.heap.size + 1 + 1) (cs := rpC ⟨id, 3, 0, [], EX, PX⟩ nilS (.slice va c vc) (.slice pa PX.length pc)) Hx0.out)
  have HP8 := hid (SlAt.setY (cs := rpC ⟨id, 3, 0, [], EX, PX⟩ nilS (.slice va c vc) (.slice pa PX.length pc)) HP7.out HW7.out.y)
  generalize w7.setRow (w.heap.size + 1 + 1) (rpC ⟨id, 3, 0, [], EX, PX⟩ nilS (.slice va c vc) (.slice pa PX.length pc)) = w8 at *
  go_wp2
  refine bodyPost_ret (results_cell_row rfl _ _ (w.heap.size + 1 + 1) 68 _ (0, 0) _ rfl HY8.out Tryd.underlying68 rfl Tryd.sizeRpS) rfl ?_
  have hEx : StrsAt w8 (.slice va c vc) EX := StrsAt.of_owns (base := x0.heap.size) (e := 9) (by have := Hown8.out; rwa [HEl.out])
  exact ⟨_, _, _, [], rfl, ⟨SgsAt.nil _, rfl, hEx, HP8.out⟩, HB8.out⟩
theorem entries_any (S : Src) (ve vl vh vf : Value) (hd fd : List Sg) (r : Rq) (w : World) (hX : SrcIn w S ve vl vh vf hd fd) (hs : SrcSmall S) (hi : RqI r) (hG : ShaG w) :
    Calls Tryd.prog 55 #[.agg (srcC ve vl vh vf), r.v] w fun e w' => AnsR w (entRp S r) e w' := by
  by_cases h1 : r.count < 1 ∨ 16 < r.count ∨ r.fr < 0
  · exact entries_arg S ve vl vh vf r w h1
  · by_cases h2 : sizeS S < r.size ∨ r.size < r.count ∨ r.size - r.count < r.fr
    · exact entries_range S ve vl vh vf hd fd r w hX hs hi h1 h2
    · exact entries_ok S ve vl vh vf hd fd r w hX hs hi h1 h2 hG
end Go.Proofs.YtbpjlancjdbehaaDoor
