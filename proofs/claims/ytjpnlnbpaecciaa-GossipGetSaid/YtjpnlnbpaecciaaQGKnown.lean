/- gossip.PutKnown, and the document's -/
import Derived.Test.YtjpnlnbpaecciaaQSg

set_option maxRecDepth 100000
namespace Go.Spec
open Go.RowKit
theorem HdsAt.cells {w : World} {a : Option Addr} {n cap : Nat} {hs : List Hd} (h : HdsAt w (.slice a n cap) hs) {i : Nat} (hi : i < hs.length) :
    ∃ b o, a = some ⟨b, o, none⟩ ∧ b < w.heap.size ∧ w.cell? ⟨b, o + i * 33, none⟩ = some (.int .i64 hs[i].z) ∧ (∀ j u, (hs[i].r.map bcell)[j]? = some u → w.cell? ((⟨b, o + i * 33 + 1, none⟩ : Addr).add j) = some u) := by
  obtain ⟨b, o, ha, hb, hc⟩ := h.get hi
  refine ⟨b, o, ha, hb, ?_, fun j u hj => ?_⟩
  · have := hc 0 (.int .i64 hs[i].z) (by simp [hdA])
    rwa [Addr.add_lit] at this
  · have := hc (j + 1) u (by simpa [hdA] using hj)
    rw [Addr.add_lit] at this ⊢
    rw [show o + i * 33 + 1 + j = o + i * 33 + (j + 1) by omega]
    exact this
end Go.Spec
namespace Go.Proofs.Ytjpnlnbpaecciaa
open Go.RowKit Go.Spec
def mayB (h : Hd) : Bool := decide (0 ≤ h.z) && decide (h.z ≤ 4096)
def hdT (h : Hd) : List UInt8 := numL h.z.toNat ++ h.r
def putKL (hs : List Hd) : Option (List UInt8) := if 64 < hs.length then none else if hs.all mayB then some (68 :: (numL hs.length ++ (hs.map hdT).flatten)) else none
theorem hdT_len (h : Hd) (hv : mayB h = true) (hr : h.r.length = 32) : (hdT h).length ≤ 42 := by
  simp only [mayB, Bool.and_eq_true, decide_eq_true_eq] at hv
  have h2 := numL_len h.z.toNat (by omega)
  unfold hdT
  rw [List.length_append]; omega
theorem hdTs_len : ∀ (hs : List Hd), (∀ d ∈ hs, d.r.length = 32) → hs.all mayB = true → ((hs.map hdT).flatten).length ≤ 42 * hs.length
  | [], _, _ => by simp
  | d :: ds, h, hv => by
    simp only [List.all_cons, Bool.and_eq_true] at hv
    have ih := hdTs_len ds (fun x hx => h x (List.mem_cons_of_mem _ hx)) hv.2
    have := hdT_len d hv.1 (h d List.mem_cons_self)
    simp only [List.map_cons, List.flatten_cons, List.length_append, List.length_cons]
    omega
set_option maxHeartbeats 2000000 in
theorem may_any (h : Hd) (w : World) (hr : h.r.length = 32) :
    Calls Try.prog 51 #[.agg (hdA h.z h.r)] w fun e w' => e = .returned (.bool (mayB h)) ∧ Below w.heap.size w w' := by
  obtain ⟨z, r⟩ := h
  simp only at hr ⊢
  by_cases h1 : 0 ≤ z
  · have d1 : decide (0 ≤ z) = true := by simpa using h1
    have Hf := hid (show mayB ⟨z, r⟩ = decide (z ≤ 4096) by simp [mayB, d1])
    clear h1
    go_enter Try.func51, Try.ntmps51
    go_wp2
    go_ret
    exact ⟨by rw [Hf.out]; rfl, (Below.refl _ _).alloc (Nat.le_refl _) _⟩
  · have d1 : decide (0 ≤ z) = false := by simpa using h1
    have Hf := hid (show mayB ⟨z, r⟩ = false by simp [mayB, h1])
    clear h1
    go_enter Try.func51, Try.ntmps51
    go_wp2
    go_ret
    exact ⟨by rw [Hf.out]; rfl, (Below.refl _ _).alloc (Nat.le_refl _) _⟩
set_option maxHeartbeats 2000000 in
theorem gputk_any (v : Value) (hs : List Hd) (w : World) (hv : HdsAt w v hs) (hn : hs.length ≤ 1000000000) :
    Calls Try.prog 16 #[v] w fun e w' => e = .returned (putR (putKL hs)) ∧ Below w.heap.size w w' := by
  obtain ⟨a, cap, rfl, hcap⟩ := hv.form
  by_cases h3 : 64 < hs.length
  · have Hf := hid (show putKL hs = none by rw [putKL, if_pos h3])
    have d1 : decide (64 < (hs.length : Int)) = true := decide_eq_true (by omega)
    clear h3
    go_enter Try.func16, Try.ntmps16
    go_wp2
    go_ret2
    exact ⟨by rw [Hf.out]; rfl, Below.refl _ _⟩
  have d1 : decide (64 < (hs.length : Int)) = false := decide_eq_false (by omega)
  have Hfin := hid (show putKL hs = (if hs.all mayB then some (68 :: (numL hs.length ++ (hs.map hdT).flatten)) else none) by rw [putKL, if_neg (by omega)])
  have h3' : hs.length ≤ 64 := by omega
  have hnl := numL_len hs.length (by omega)
  clear hn h3
  go_enter Try.func16, Try.ntmps16
  go_upto_region 5 with (first
    | (go_at_call 44; refine (num_any _ _ (by omega)).mono ?_; rintro e w1 ⟨rfl, hb1⟩; have HB := hid ((IsB.fresh 81 5 w).below hb1))
    | (go_at_call 43; refine (ws_any w.heap.size none [] (68 :: numL hs.length) _ HB.out (by simp; omega)).mono ?_; rintro e w2 ⟨rfl, hw2⟩))
  have hb2 : Below w.heap.size w w2 := (((Below.refl _ _).alloc (Nat.le_refl _) _).trans (hb1.mono (by simp))).trans (hw2.below HB.out)
  obtain ⟨r, hB, _⟩ := hw2.ex
  simp only [List.nil_append] at hB
  have HB2 := hid hB; clear hB hw2 HB hb1
  have Hv := hid hv; clear hv
  clear hnl
  go_upto_region 6 with fail
  go_loopw [18] (fun i wr => ∃ (k : Nat) (r : Option Nat), i = .int .i64 k ∧ k ≤ hs.length ∧ (hs.take k).all mayB = true ∧ Bld w.heap.size r (68 :: (numL hs.length ++ ((hs.take k).map hdT).flatten)) wr ∧ Below w.heap.size w wr)
    (fun i _ => hs.length - (intOf i).toNat)
  case atStart => exact ⟨0, _, rfl, by omega, by simp, by simpa using HB2.out, hb2⟩
  case round =>
    obtain ⟨k, r', rfl, hk, hva, hB, hb⟩ := hrel
    have HB3 := hid hB; clear hB
    have Hva := hid hva; clear hva
    by_cases hlt : k < hs.length
    · have hdk := Hv.out.ok hs[k] (List.getElem_mem hlt)
      obtain ⟨b, o, rfl, hbl, hcell⟩ := (Hv.out.below hb).get hlt
      have Hlen := hid (show (68 :: (numL hs.length ++ ((hs.take k).map hdT).flatten)).length ≤ 100000 by
        have h1 := numL_len hs.length (by omega)
        have h2 := hdTs_len (hs.take k) (fun x hx => Hv.out.ok x (List.mem_of_mem_take hx)) Hva.out
        simp only [List.length_cons, List.length_append, List.length_take] at h2 ⊢
        omega)
      have Htk := hid (show hs.take (k + 1) = hs.take k ++ [hs[k]] from List.take_succ_eq_append_getElem hlt)
      have Hall := hid (show mayB hs[k] = false → hs.all mayB = false from fun h => by
        rw [Bool.eq_false_iff]
        intro h'
        have := List.all_eq_true.1 h' hs[k] (List.getElem_mem hlt)
        rw [h] at this; cases this)
      generalize hd : hs[k] = d at *
      clear hd
      have Hmay := hid (fun w0 => may_any d w0 hdk)
      have hr := hdk
      have Hsz := hid (show (Try.prog.info? 36).map (·.size) = some (hdA d.z d.r).size by rw [hdA_size hr]; exact Try.sizeHead)
      have Hsz2 := hid (hdA_size (z := d.z) hr)
      have Hsh := hid (show (Try.prog.info? 34).map (·.size) = some d.r.length by rw [hr]; exact Try.sizeHash)
      have Hc := hid hcell; clear hcell hdk
      have hk64 : (k : Int) < (hs.length : Int) := by omega
      cases hvd : mayB d with
      | false =>
        rw [hvd] at Hmay
        have Hvd := hid hvd; clear hvd
        go_wp2_with (first
          | ((with_reducible show wpList _ _ _ ({ dst := _, op := Op.load 36 _, type := _, pos := _, after := _, guard := _ } :: _) _ _); refine wpList_load_cs rfl 36 _ rfl ⟨b, o + k * 33, none⟩ rfl _ _ Hc.out Try.underlying36 rfl Hsz.out ?_)
          | ((with_reducible show wpList _ _ _ ({ dst := _, op := Op.store _ _ _, type := _, pos := _, after := _, guard := _ } :: _) _ _); refine wpList_store_newA rfl 36 _ _ rfl rfl (hdA d.z d.r) rfl _ 36 (by rw [Hsz2.out]; rfl) Hsz.out hdA_one ?_)
          | ((with_reducible show wpList _ _ _ ({ dst := _, op := Op.load 36 _, type := _, pos := _, after := _, guard := _ } :: _) _ _); refine wpList_load_newA rfl 36 _ rfl rfl _ 36 _ Try.underlying36 rfl Hsz.out ?_)
          | (go_at_call 51; refine (Hmay.out _).mono ?_; rintro e w4 ⟨rfl, hb4⟩))
        go_ret2
        exact ⟨by rw [Hfin.out, Hall.out Hvd.out]; rfl, (hb.trans (((Below.refl _ wr).alloc (Nat.le_refl _) _).mono hb.size)).trans (hb4.mono (by have := hb.size; simp; omega))⟩
      | true =>
        rw [hvd] at Hmay
        have htl := hdT_len d hvd hr
        obtain ⟨hz0, hz1⟩ : 0 ≤ d.z ∧ d.z ≤ 4096 := by simpa [mayB] using hvd
        have Hvd := hid hvd; clear hvd
        obtain ⟨z, R⟩ := d
        obtain ⟨zn, rfl⟩ : ∃ n : Nat, z = n := ⟨z.toNat, by simp only at hz0; omega⟩
        simp only at *
        have HT := hid (show numL zn ++ R = hdT ⟨(zn : Int), R⟩ from rfl)
        have Htl := hid htl; clear htl
        have hz2 : zn ≤ 4096 := by omega
        clear hz0 hz1
        go_upto_region 10 with (first
          | ((with_reducible show wpList _ _ _ ({ dst := _, op := Op.load 36 _, type := _, pos := _, after := _, guard := _ } :: _) _ _); refine wpList_load_cs rfl 36 _ rfl ⟨b, o + k * 33, none⟩ rfl _ _ Hc.out Try.underlying36 rfl Hsz.out ?_)
          | ((with_reducible show wpList _ _ _ ({ dst := _, op := Op.store _ _ _, type := _, pos := _, after := _, guard := _ } :: _) _ _); refine wpList_store_newA rfl 36 _ _ rfl rfl (hdA (zn : Int) R) rfl _ 36 (by rw [Hsz2.out]; rfl) Hsz.out hdA_one ?_)
          | ((with_reducible show wpList _ _ _ ({ dst := _, op := Op.load 36 _, type := _, pos := _, after := _, guard := _ } :: _) _ _); refine wpList_load_newA rfl 36 _ rfl rfl _ 36 _ Try.underlying36 rfl Hsz.out ?_)
          | (go_at_call 51; refine (Hmay.out _).mono ?_; rintro e w4 ⟨rfl, hb4⟩))
        have HBk := hid ((Blk.new wr (hdA (zn : Int) R) 36).later hb4)
        have HB5 := hid ((HB3.out.below ((Below.refl _ _).alloc (Nat.le_refl _) (.cells (hdA (zn : Int) R) 36))).below hb4)
        have HW := hid ((hb.trans (((Below.refl _ wr).alloc (Nat.le_refl _) (.cells (hdA (zn : Int) R) 36)).mono hb.size)).trans (hb4.mono (by have := hb.size; simp; omega)))
        have hwl : wr.heap.size < w4.heap.size := HBk.out.lt
        clear hb4
        have C1 := fun x : Later w4 => num_any zn (lat x) (by omega)
        have C4 := fun x : Later w4 => hash_any R (lat x) hr
        generalize hgw : wr.heap.size = gw at *
        clear hgw
        have C1 := hid C1; have C4 := hid C4
        have hnz := numL_len zn (by omega)
        have hRl : R.length ≤ 32 := by omega
        refine wp_region_later_tail 8 (by kernel_rfl) (by kernel_rfl) ?_
        simp only [List.take_succ_cons, List.take_zero, List.drop_succ_cons, List.drop_zero]
        repeat (first
          | (refine wpQuiet_load_one rfl 3 _ rfl ⟨gw, 0, none⟩ rfl (.int .i64 (zn : Int)) _ (by rintro _ ⟨q, rfl⟩; exact (HBk.out.later (lat_below q)).hd0) Try.underlying3 rfl ?_; simp only [Act.put, List.setIfInBounds_toArray, List.set_cons_succ, List.set_cons_zero])
          | (refine wpQuiet_load_hcG rfl 34 _ rfl ⟨gw, 1, none⟩ rfl R _ (by rintro _ ⟨q, rfl⟩; exact (HBk.out.later (lat_below q)).hdRoot hr) Try.underlying34 rfl Hsh.out ?_; simp only [Act.put, List.setIfInBounds_toArray, List.set_cons_succ, List.set_cons_zero])
          | go_big_quiet_step ((first | (go_at_call 44; with_reducible exact calls_later (C1.out _)) | (go_at_call 52; with_reducible exact calls_later (C4.out _)))))
        refine wpQuiet_nil ?_
        rintro _ ⟨q6, rfl⟩
        have hb6 := lat_below q6
        generalize lat q6 = w6 at *
        have HB6 := hid (HB5.out.below hb6)
        go_wp2_with (go_at_call 43; rw [HT.out]; refine (ws_any _ _ _ (hdT ⟨(zn : Int), R⟩) _ HB6.out (by have := Hlen.out; have := Htl.out; omega)).mono ?_; rintro e w7 ⟨rfl, hw7⟩)
        go_roundw
        case rel =>
          obtain ⟨r2, hr2, _⟩ := hw7.ex
          refine ⟨k + 1, r2, by go_num, by omega, ?_, ?_, ?_⟩
          · rw [Htk.out, List.all_append, Hva.out]; simp [Hvd.out]
          · rw [Htk.out, List.map_append, List.flatten_append]; simpa using hr2
          · exact (HW.out.trans (hb6.mono HW.out.size)).trans (hw7.below HB6.out)
        case measure => simp [intOf]; omega
    · have hke : k = hs.length := by omega
      subst hke
      have Hne := hid (show (68 :: (numL hs.length ++ ((hs.take hs.length).map hdT).flatten)) ≠ [] from fun h => by cases h)
      go_wp2_with (go_at_call 47; refine (bstring_any _ _ _ _ HB3.out Hne.out).mono ?_; rintro e w4 ⟨rfl, hw4⟩)
      go_ret2
      refine ⟨?_, hb.trans (hw4.below hb.size (fun j hj => by have := HB3.out.row j hj; omega))⟩
      have hva := Hva.out
      rw [List.take_length] at hva
      rw [Hfin.out, hva]
      simp only [if_true, putR, List.take_length]
      rfl
end Go.Proofs.Ytjpnlnbpaecciaa
/- gossip.count: a letter, and a number behind it -/
namespace Go.Proofs.Ytjpnlnbpaecciaa
open Go.RowKit Go.Spec
/-- what stands behind a letter -/
def behind (l : List UInt8) (c : UInt8) : Option (List UInt8) := match l with
  | x :: r => if x = c then some r else none
  | [] => none
theorem behind_some {l r : List UInt8} {c : UInt8} (h : behind l c = some r) : l = c :: r := by
  unfold behind at h
  split at h
  · split at h
    · rename_i hx; injection h with h; rw [hx, h]
    · cases h
  · cases h
theorem behind_cons (r : List UInt8) (c : UInt8) : behind (c :: r) c = some r := by simp [behind]
/-- the tests of HasPrefix -/
def hasB (l : List UInt8) (c : UInt8) : Bool := (behind l c).isSome
set_option maxHeartbeats 4000000 in
theorem hasPrefix_any (l : List UInt8) (c : UInt8) (w : World) (hl : l.length ≤ 1000000000) :
    Calls Try.prog 99 #[sv l, sv [c]] w fun e w' => e = .returned (.bool (hasB l c)) ∧ Below w.heap.size w w' := by
  cases l with
  | nil =>
    go_enter Try.func99, Try.ntmps99
    go_wp2
    go_ret
    exact ⟨rfl, Below.refl _ _⟩
  | cons x r =>
    simp only [List.length_cons] at hl
    by_cases hx : x = c
    · subst hx
      have Hf := hid (show hasB (x :: r) x = true by simp [hasB, behind])
      go_enter Try.func99, Try.ntmps99
      go_wp2
      go_ret
      exact ⟨by rw [Hf.out]; rfl, Below.refl _ _⟩
    · have Hf := hid (show hasB (x :: r) c = false by simp [hasB, behind, hx])
      have hq : (x == c) = false := by simpa using hx
      go_enter Try.func99, Try.ntmps99
      go_wp2
      go_ret
      exact ⟨by rw [Hf.out]; rfl, Below.refl _ _⟩
def cutPV (l : List UInt8) (c : UInt8) : Value := match behind l c with
  | some r => .tuple #[sv r, .bool true]
  | none => .tuple #[sv l, .bool false]
set_option maxHeartbeats 4000000 in
theorem cutPrefix0_any (l : List UInt8) (c : UInt8) (w : World) (hl : l.length ≤ 1000000000) :
    Calls Try.prog 98 #[sv l, sv [c]] w fun e w' => e = .returned (cutPV l c) ∧ Below w.heap.size w w' := by
  have HP := hid (fun w0 => hasPrefix_any l c w0 hl)
  cases hb : behind l c with
  | none =>
    rw [show hasB l c = false by simp [hasB, hb]] at HP
    have Hf := hid (show cutPV l c = .tuple #[sv l, .bool false] by rw [cutPV, hb])
    go_enter Try.func98, Try.ntmps98
    go_wp2_with (go_at_call 99; refine (HP.out _).mono ?_; rintro e w1 ⟨rfl, hb1⟩)
    go_ret2
    exact ⟨by rw [Hf.out]; rfl, hb1⟩
  | some r =>
    rw [show hasB l c = true by simp [hasB, hb]] at HP
    have Hf := hid (show cutPV l c = .tuple #[sv r, .bool true] by rw [cutPV, hb])
    obtain rfl := behind_some hb
    simp only [List.length_cons] at hl
    clear hb
    go_enter Try.func98, Try.ntmps98
    go_wp2_with (go_at_call 99; refine (HP.out _).mono ?_; rintro e w1 ⟨rfl, hb1⟩)
    go_ret2
    exact ⟨by rw [Hf.out]; rfl, hb1⟩
set_option maxHeartbeats 4000000 in
theorem cutPrefix_any (l : List UInt8) (c : UInt8) (w : World) (hl : l.length ≤ 1000000000) :
    Calls Try.prog 90 #[sv l, sv [c]] w fun e w' => e = .returned (cutPV l c) ∧ Below w.heap.size w w' := by
  have HP := hid (fun w0 => cutPrefix0_any l c w0 hl)
  unfold cutPV at *
  cases hb : behind l c with
  | none =>
    rw [hb] at HP
    go_enter Try.func90, Try.ntmps90
    go_wp2_with (go_at_call 98; refine (HP.out _).mono ?_; rintro e w1 ⟨rfl, hb1⟩)
    go_ret2
    exact ⟨rfl, hb1⟩
  | some r =>
    rw [hb] at HP
    go_enter Try.func90, Try.ntmps90
    go_wp2_with (go_at_call 98; refine (HP.out _).mono ?_; rintro e w1 ⟨rfl, hb1⟩)
    go_ret2
    exact ⟨rfl, hb1⟩
/-- what count answers -/
def countN (l : List UInt8) (c : UInt8) : Nat := match behind l c with | some r => rdN r | none => 0
def countR (l : List UInt8) (c : UInt8) : List UInt8 := match behind l c with | some r => rdR r | none => []
def countB (l : List UInt8) (c : UInt8) : Bool := match behind l c with | some r => rdB r | none => false
set_option maxHeartbeats 4000000 in
theorem count_any (l : List UInt8) (c : UInt8) (w : World) (hl : l.length ≤ 1000000000) :
    Calls Try.prog 70 #[sv l, sv [c]] w fun e w' => e = .returned (.tuple #[.int .u64 (countN l c), sv (countR l c), .bool (countB l c)]) ∧ Below w.heap.size w w' := by
  have HP := hid (fun w0 => cutPrefix_any l c w0 hl)
  unfold cutPV countN countR countB at *
  cases hb : behind l c with
  | none =>
    rw [hb] at HP
    go_enter Try.func70, Try.ntmps70
    go_wp2_with (go_at_call 90; refine (HP.out _).mono ?_; rintro e w1 ⟨rfl, hb1⟩)
    go_ret3
    exact ⟨rfl, hb1⟩
  | some r =>
    rw [hb] at HP
    have hrl : r.length ≤ 1000000000 := by rw [behind_some hb] at hl; simp at hl; omega
    go_enter Try.func70, Try.ntmps70
    go_wp2_with (first
      | (go_at_call 90; refine (HP.out _).mono ?_; rintro e w1 ⟨rfl, hb1⟩)
      | (go_at_call 76; refine (read_gen r _ (by omega)).mono ?_; rintro e w2 ⟨rfl, hb2⟩))
    go_ret3
    exact ⟨rfl, bth hb1 hb2⟩
end Go.Proofs.Ytjpnlnbpaecciaa
/- Heads out of bytes: plain laws -/
namespace Go.Proofs.Ytjpnlnbpaecciaa
open Go.RowKit Go.Spec
theorem rdR_le (l : List UInt8) : (rdR l).length ≤ l.length := by
  unfold rdR
  split
  · rename_i n r h
    have := (rd_some l 0 n r (by omega) h).2
    omega
  · simp
theorem rdN_lt (l : List UInt8) : rdN l < 18446744073709551616 := by
  unfold rdN
  split
  · rename_i n r h
    exact (rd_some l 0 n r (by omega) h).1
  · omega
theorem unR_le (l : List UInt8) : (unR l).length ≤ l.length := by
  unfold unR; split <;> simp
theorem cuR_le (l : List UInt8) : (cuR l).length ≤ l.length := by
  unfold cuR
  split
  · rename_i t r h
    unfold cutL at h
    split at h
    · cases h
    · rename_i n r' h1
      have := (rd_some l 0 n r' (by omega) h1).2
      split at h
      · cases h
      · injection h with h; injection h with h2 h3
        rw [← h3, List.length_drop]; omega
  · simp
theorem cuT_le (l : List UInt8) : (cuT l).length ≤ l.length := by
  unfold cuT
  split
  · rename_i t r h
    unfold cutL at h
    split at h
    · cases h
    · rename_i n r' h1
      have := (rd_some l 0 n r' (by omega) h1).2
      split at h
      · cases h
      · injection h with h; injection h with h2 h3
        rw [← h2, List.length_take]; omega
  · simp
theorem usR_le (l : List UInt8) : (usR l).length ≤ l.length := by
  unfold usR
  split
  · rename_i t r h
    unfold unhashesL at h
    split at h
    · cases h
    · rename_i n r' h1
      have := (rd_some l 0 n r' (by omega) h1).2
      split at h
      · cases h
      · injection h with h; injection h with h2 h3
        rw [← h3, List.length_drop]; omega
  · simp
theorem countR_le (l : List UInt8) (c : UInt8) : (countR l c).length ≤ l.length := by
  unfold countR
  split
  · rename_i r h
    have := rdR_le r
    rw [behind_some h]; simp; omega
  · simp
theorem countN_lt (l : List UInt8) (c : UInt8) : countN l c < 18446744073709551616 := by
  unfold countN
  split
  · exact rdN_lt _
  · omega
/-- may a head be read? -/
def hdB (l : List UInt8) : Bool := rdB l && unB (rdR l) && decide (rdN l ≤ 4096)
def hdV (l : List UInt8) : Hd := ⟨rdN l, unT (rdR l)⟩
/-- so many heads, and what is behind -/
def hdsP : Nat → List UInt8 → Option (List Hd × List UInt8)
  | 0, l => some ([], l)
  | n + 1, l => if hdB l then (hdsP n (unR (rdR l))).map (fun x => (hdV l :: x.1, x.2)) else none
def getKL (l : List UInt8) : Option (List Hd) :=
  if countB l 68 = false ∨ 64 < countN l 68 then none else
    match hdsP (countN l 68) (countR l 68) with
    | some (hs, []) => some hs
    | _ => none
theorem hdsP_step {n k : Nat} {l s : List UInt8} {out : List Hd} (h : hdsP n l = (hdsP (n - k) s).map (fun x => (out ++ x.1, x.2))) (hk : k < n) (hb : hdB s = true) :
    hdsP n l = (hdsP (n - (k + 1)) (unR (rdR s))).map (fun x => ((out ++ [hdV s]) ++ x.1, x.2)) := by
  obtain ⟨m, hm⟩ : ∃ m, n - k = m + 1 := ⟨n - k - 1, by omega⟩
  rw [h, hm, hdsP, if_pos hb, show n - (k + 1) = m by omega]
  cases hdsP m (unR (rdR s)) <;> simp
theorem hdsP_stop {n k : Nat} {l s : List UInt8} {out : List Hd} (h : hdsP n l = (hdsP (n - k) s).map (fun x => (out ++ x.1, x.2))) (hk : k < n) (hb : hdB s = false) : hdsP n l = none := by
  obtain ⟨m, hm⟩ : ∃ m, n - k = m + 1 := ⟨n - k - 1, by omega⟩
  rw [h, hm, hdsP, if_neg (by rw [hb]; simp)]; rfl
theorem hdsP_len : ∀ (n : Nat) (l : List UInt8) (hs : List Hd) (r : List UInt8), hdsP n l = some (hs, r) → hs.length = n
  | 0, l, hs, r, h => by simp [hdsP] at h; rw [h.1]; rfl
  | n + 1, l, hs, r, h => by
    rw [hdsP] at h
    split at h
    · cases hq : hdsP n (unR (rdR l)) with
      | none => rw [hq] at h; cases h
      | some x =>
        rw [hq] at h
        simp only [Option.map_some, Option.some.injEq, Prod.mk.injEq] at h
        rw [← h.1, List.length_cons, hdsP_len n _ x.1 x.2 hq]
    · cases h
/-- what is read of heads' bytes -/
theorem hdsP_put : ∀ (hs : List Hd) (r : List UInt8), (∀ h ∈ hs, h.r.length = 32) → hs.all mayB = true → hdsP hs.length ((hs.map hdT).flatten ++ r) = some (hs, r)
  | [], r, _, _ => rfl
  | h :: hs, r, h32, hv => by
    simp only [List.all_cons, Bool.and_eq_true] at hv
    have hr := h32 h List.mem_cons_self
    obtain ⟨hz0, hz1⟩ : 0 ≤ h.z ∧ h.z ≤ 4096 := by simpa [mayB] using hv.1
    have e : ((h :: hs).map hdT).flatten ++ r = numL h.z.toNat ++ (h.r ++ ((hs.map hdT).flatten ++ r)) := by simp [hdT]
    have h1 : rd 0 (((h :: hs).map hdT).flatten ++ r) = some (h.z.toNat, h.r ++ ((hs.map hdT).flatten ++ r)) := by rw [e]; exact rd_num _ (by omega) _
    have e1 : rdB (((h :: hs).map hdT).flatten ++ r) = true := by rw [rdB, h1]; rfl
    have e2 : rdN (((h :: hs).map hdT).flatten ++ r) = h.z.toNat := by rw [rdN, h1]
    have e3 : rdR (((h :: hs).map hdT).flatten ++ r) = h.r ++ ((hs.map hdT).flatten ++ r) := by rw [rdR, h1]
    have e4 : unB (h.r ++ ((hs.map hdT).flatten ++ r)) = true := by simp [unB]; omega
    have e5 : unT (h.r ++ ((hs.map hdT).flatten ++ r)) = h.r := by
      rw [unT, if_neg (by simp; omega), ← hr, List.take_left]
    have e6 : unR (h.r ++ ((hs.map hdT).flatten ++ r)) = (hs.map hdT).flatten ++ r := by
      rw [unR, if_neg (by simp; omega), ← hr, List.drop_left]
    rw [List.length_cons, hdsP, if_pos (by rw [hdB, e1, e2, e3, e4]; simp; omega), e3, e6, hdsP_put hs r (fun x hx => h32 x (List.mem_cons_of_mem _ hx)) hv.2]
    simp only [Option.map_some, hdV, e2, e3, e5]
    congr 2
    rw [List.cons.injEq]
    refine ⟨?_, rfl⟩
    obtain ⟨z, r'⟩ := h
    simp only at hz0 ⊢
    rw [Int.toNat_of_nonneg hz0]
theorem getKL_put (hs : List Hd) (s : List UInt8) (h32 : ∀ h ∈ hs, h.r.length = 32) (h : putKL hs = some s) : getKL s = some hs := by
  unfold putKL at h
  split at h
  · cases h
  · rename_i h64
    split at h
    · rename_i hv
      injection h with h
      have hb : behind s 68 = some (numL hs.length ++ (hs.map hdT).flatten) := by rw [← h]; exact behind_cons _ _
      have hrd : rd 0 (numL hs.length ++ (hs.map hdT).flatten) = some (hs.length, (hs.map hdT).flatten) := rd_num _ (by omega) _
      have e1 : countB s 68 = true := by rw [countB, hb]; simp only [rdB, hrd]; rfl
      have e2 : countN s 68 = hs.length := by rw [countN, hb]; simp only [rdN, hrd]
      have e3 : countR s 68 = (hs.map hdT).flatten := by rw [countR, hb]; simp only [rdR, hrd]
      have hp := hdsP_put hs [] h32 hv
      rw [List.append_nil] at hp
      rw [getKL, e1, e2, e3, if_neg (by simp; omega), hp]
    · cases h
theorem hd_back (l : List UInt8) (h : hdB l = true) : mayB (hdV l) = true ∧ (hdV l).r.length = 32 ∧ hdT (hdV l) ++ unR (rdR l) = l := by
  simp only [hdB, Bool.and_eq_true, decide_eq_true_eq] at h
  obtain ⟨⟨h1, h2⟩, h3⟩ := h
  have f1 := (form_rd l).1 h1
  have f2 := (form_un (rdR l)).1 h2
  simp only [beq_iff_eq] at f1 f2
  refine ⟨by rw [mayB, Bool.and_eq_true, decide_eq_true_eq, decide_eq_true_eq]; exact (show (0 : Int) ≤ (rdN l : Int) ∧ (rdN l : Int) ≤ 4096 by omega), unT_len _, ?_⟩
  unfold hdT hdV
  simp only [Int.toNat_natCast]
  rw [List.append_assoc, f2]
  exact f1.1
theorem hdsP_back : ∀ (n : Nat) (l : List UInt8) (hs : List Hd) (r : List UInt8), hdsP n l = some (hs, r) → hs.all mayB = true ∧ (∀ h ∈ hs, h.r.length = 32) ∧ (hs.map hdT).flatten ++ r = l
  | 0, l, hs, r, h => by
    simp [hdsP] at h
    obtain ⟨rfl, rfl⟩ := h
    simp
  | n + 1, l, hs, r, h => by
    rw [hdsP] at h
    split at h
    · rename_i hb
      cases hq : hdsP n (unR (rdR l)) with
      | none => rw [hq] at h; cases h
      | some x =>
        rw [hq] at h
        simp only [Option.map_some, Option.some.injEq, Prod.mk.injEq] at h
        obtain ⟨rfl, rfl⟩ := h
        obtain ⟨i1, i2, i3⟩ := hdsP_back n _ x.1 x.2 hq
        obtain ⟨b1, b2, b3⟩ := hd_back l hb
        refine ⟨by simp only [List.all_cons, b1, i1, Bool.and_self], ?_, ?_⟩
        · intro y hy
          rcases List.mem_cons.1 hy with rfl | hy
          · exact b2
          · exact i2 y hy
        · rw [List.map_cons, List.flatten_cons, List.append_assoc, i3, b3]
    · cases h
theorem getKL_back (l : List UInt8) (hs : List Hd) (h : getKL l = some hs) : putKL hs = some l ∧ (∀ x ∈ hs, x.r.length = 32) ∧ hs.length ≤ 64 := by
  unfold getKL at h
  split at h
  · cases h
  · rename_i hc
    simp only [not_or, Bool.not_eq_false] at hc
    split at h
    · rename_i x hs' hp
      injection h with h
      subst h
      obtain ⟨i1, i2, i3⟩ := hdsP_back _ _ _ _ hp
      have hl := hdsP_len _ _ _ _ hp
      rw [List.append_nil] at i3
      refine ⟨?_, i2, by omega⟩
      have hb : ∃ r, behind l 68 = some r := by
        cases hb : behind l 68 with
        | none => rw [countB, hb] at hc; cases hc.1
        | some r => exact ⟨r, rfl⟩
      obtain ⟨r, hb⟩ := hb
      have hr := (form_rd r).1 (by have := hc.1; rwa [countB, hb] at this)
      simp only [beq_iff_eq] at hr
      have e2 : countN l 68 = rdN r := by rw [countN, hb]
      have e3 : countR l 68 = rdR r := by rw [countR, hb]
      rw [putKL, if_neg (by omega), if_pos i1, i3, hl, e2, e3, hr.1, behind_some hb]
    · cases h
theorem hdsP_ok (n : Nat) (l : List UInt8) (hs : List Hd) (r : List UInt8) (h : hdsP n l = some (hs, r)) : ∀ x ∈ hs, x.r.length = 32 := (hdsP_back n l hs r h).2.1
end Go.Proofs.Ytjpnlnbpaecciaa
