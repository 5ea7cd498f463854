/- gossip.PutKnown, and the document's -/
import Derived.Test.YtjpnlnbpaecciaaSgRow
set_option maxRecDepth 100000
namespace Go.Spec
open Go.RowKit
theorem HdsAt.cells {w : World} {a : Option Addr} {n cap : Nat} {hs : List Hd} (h : HdsAt w (.slice a n cap) hs) {i : Nat} (hi : i < hs.length) :
    ∃ b o, a = some ⟨b, o, none⟩ ∧ b < w.heap.size ∧ w.cell? ⟨b, o + i * 33, none⟩ = some (.int .i64 hs[i].z) ∧ (∀ j u, (hs[i].r.map bcell)[j]? = some u → w.cell? ((⟨b, o + i * 33 + 1, none⟩ : Addr).add j) = some u) := by
  obtain ⟨b, o, ha, hb, hc⟩ := h.get hi
  refine ⟨b, o, ha, hb, ?_, fun j u hj => ?_⟩
  · have := hc 0 (.int .i64 hs[i].z) (by simp [hdA])
    rwa [Addr.add_lit] at this
  · have := hc (j + 1) u (by simpa [hdA] using hj)
    rw [Addr.add_lit] at this ⊢
    rw [show o + i * 33 + 1 + j = o + i * 33 + (j + 1) by omega]
    exact this
end Go.Spec
namespace Go.Proofs.Ytjpnlnbpaecciaa
open Go.RowKit Go.Spec
def mayB (h : Hd) : Bool := decide (0 ≤ h.z) && decide (h.z ≤ 4096)
def hdT (h : Hd) : List UInt8 := numL h.z.toNat ++ h.r
def putKL (hs : List Hd) : Option (List UInt8) := if 64 < hs.length then none else if hs.all mayB then some (68 :: (numL hs.length ++ (hs.map hdT).flatten)) else none
theorem hdT_len (h : Hd) (hv : mayB h = true) (hr : h.r.length = 32) : (hdT h).length ≤ 42 := by
  simp only [mayB, Bool.and_eq_true, decide_eq_true_eq] at hv
  have h2 := numL_len h.z.toNat (by omega)
  unfold hdT
  rw [List.length_append]; omega
theorem hdTs_len : ∀ (hs : List Hd), (∀ d ∈ hs, d.r.length = 32) → hs.all mayB = true → ((hs.map hdT).flatten).length ≤ 42 * hs.length
  | [], _, _ => by simp
  | d :: ds, h, hv => by
    simp only [List.all_cons, Bool.and_eq_true] at hv
    have ih := hdTs_len ds (fun x hx => h x (List.mem_cons_of_mem _ hx)) hv.2
    have := hdT_len d hv.1 (h d List.mem_cons_self)
    simp only [List.map_cons, List.flatten_cons, List.length_append, List.length_cons]
    omega
set_option maxHeartbeats 2000000 in
theorem may_any (h : Hd) (w : World) (hr : h.r.length = 32) :
    Calls Try.prog 51 #[.agg (hdA h.z h.r)] w fun e w' => e = .returned (.bool (mayB h)) ∧ Below w.heap.size w w' := by
  obtain ⟨z, r⟩ := h
  simp only at hr ⊢
  by_cases h1 : 0 ≤ z
  · have d1 : decide (0 ≤ z) = true := by simpa using h1
    have Hf := hid (show mayB ⟨z, r⟩ = decide (z ≤ 4096) by simp [mayB, d1])
    clear h1
    go_enter Try.func51, Try.ntmps51
    go_wp2
    go_ret
    exact ⟨by rw [Hf.out]; rfl, (Below.refl _ _).alloc (Nat.le_refl _) _⟩
  · have d1 : decide (0 ≤ z) = false := by simpa using h1
    have Hf := hid (show mayB ⟨z, r⟩ = false by simp [mayB, h1])
    clear h1
    go_enter Try.func51, Try.ntmps51
    go_wp2
    go_ret
    exact ⟨by rw [Hf.out]; rfl, (Below.refl _ _).alloc (Nat.le_refl _) _⟩
set_option maxHeartbeats 2000000 in
theorem gputk_any (v : Value) (hs : List Hd) (w : World) (hv : HdsAt w v hs) (hn : hs.length ≤ 1000000000) :
    Calls Try.prog 16 #[v] w fun e w' => e = .returned (putR (putKL hs)) ∧ Below w.heap.size w w' := by
  obtain ⟨a, cap, rfl, hcap⟩ := hv.form
  by_cases h3 : 64 < hs.length
  · have Hf := hid (show putKL hs = none by rw [putKL, if_pos h3])
    have d1 : decide (64 < (hs.length : Int)) = true := decide_eq_true (by omega)
    clear h3
    go_enter Try.func16, Try.ntmps16
    go_wp2
    go_ret2
    exact ⟨by rw [Hf.out]; rfl, Below.refl _ _⟩
  have d1 : decide (64 < (hs.length : Int)) = false := decide_eq_false (by omega)
  have Hfin := hid (show putKL hs = (if hs.all mayB then some (68 :: (numL hs.length ++ (hs.map hdT).flatten)) else none) by rw [putKL, if_neg (by omega)])
  have h3' : hs.length ≤ 64 := by omega
  have hnl := numL_len hs.length (by omega)
  clear hn h3
  go_enter Try.func16, Try.ntmps16
  go_upto_region 5 with (first
    | (go_at_call 44; refine (num_any _ _ (by omega)).mono ?_; rintro e w1 ⟨rfl, hb1⟩; have HB := hid ((IsB.fresh 81 5 w).below hb1))
    | (go_at_call 43; refine (ws_any w.heap.size none [] (68 :: numL hs.length) _ HB.out (by simp; omega)).mono ?_; rintro e w2 ⟨rfl, hw2⟩))
  have hb2 : Below w.heap.size w w2 := (((Below.refl _ _).alloc (Nat.le_refl _) _).trans (hb1.mono (by simp))).trans (hw2.below HB.out)
  obtain ⟨r, hB, _⟩ := hw2.ex
  simp only [List.nil_append] at hB
  have HB2 := hid hB; clear hB hw2 HB hb1
  have Hv := hid hv; clear hv
  clear hnl
  go_upto_region 6 with fail
  go_loopw [18] (fun i wr => ∃ (k : Nat) (r : Option Nat), i = .int .i64 k ∧ k ≤ hs.length ∧ (hs.take k).all mayB = true ∧ Bld w.heap.size r (68 :: (numL hs.length ++ ((hs.take k).map hdT).flatten)) wr ∧ Below w.heap.size w wr)
    (fun i _ => hs.length - (intOf i).toNat)
  case atStart => exact ⟨0, _, rfl, by omega, by simp, by simpa using HB2.out, hb2⟩
  case round =>
    obtain ⟨k, r', rfl, hk, hva, hB, hb⟩ := hrel
    have HB3 := hid hB; clear hB
    have Hva := hid hva; clear hva
    by_cases hlt : k < hs.length
    · have hdk := Hv.out.ok hs[k] (List.getElem_mem hlt)
      obtain ⟨b, o, rfl, hbl, hcell⟩ := (Hv.out.below hb).get hlt
      have Hlen := hid (show (68 :: (numL hs.length ++ ((hs.take k).map hdT).flatten)).length ≤ 100000 by
        have h1 := numL_len hs.length (by omega)
        have h2 := hdTs_len (hs.take k) (fun x hx => Hv.out.ok x (List.mem_of_mem_take hx)) Hva.out
        simp only [List.length_cons, List.length_append, List.length_take] at h2 ⊢
        omega)
      have Htk := hid (show hs.take (k + 1) = hs.take k ++ [hs[k]] from List.take_succ_eq_append_getElem hlt)
      have Hall := hid (show mayB hs[k] = false → hs.all mayB = false from fun h => by
        rw [Bool.eq_false_iff]
        intro h'
        have := List.all_eq_true.1 h' hs[k] (List.getElem_mem hlt)
        rw [h] at this; cases this)
      generalize hd : hs[k] = d at *
      clear hd
      have Hmay := hid (fun w0 => may_any d w0 hdk)
      have hr := hdk
      have Hsz := hid (show (Try.prog.info? 36).map (·.size) = some (hdA d.z d.r).size by rw [hdA_size hr]; exact Try.sizeHead)
      have Hsz2 := hid (hdA_size (z := d.z) hr)
      have Hsh := hid (show (Try.prog.info? 34).map (·.size) = some d.r.length by rw [hr]; exact Try.sizeHash)
      have Hc := hid hcell; clear hcell hdk
      have hk64 : (k : Int) < (hs.length : Int) := by omega
      cases hvd : mayB d with
      | false =>
        rw [hvd] at Hmay
        have Hvd := hid hvd; clear hvd
        go_wp2_with (first
          | ((with_reducible show wpList _ _ _ ({ dst := _, op := Op.load 36 _, type := _, pos := _, after := _, guard := _ } :: _) _ _); refine wpList_load_cs rfl 36 _ rfl ⟨b, o + k * 33, none⟩ rfl _ _ Hc.out Try.underlying36 rfl Hsz.out ?_)
          | ((with_reducible show wpList _ _ _ ({ dst := _, op := Op.store _ _ _, type := _, pos := _, after := _, guard := _ } :: _) _ _); refine wpList_store_newA rfl 36 _ _ rfl rfl (hdA d.z d.r) rfl _ 36 (by rw [Hsz2.out]; rfl) Hsz.out hdA_one ?_)
          | ((with_reducible show wpList _ _ _ ({ dst := _, op := Op.load 36 _, type := _, pos := _, after := _, guard := _ } :: _) _ _); refine wpList_load_newA rfl 36 _ rfl rfl _ 36 _ Try.underlying36 rfl Hsz.out ?_)
          | (go_at_call 51; refine (Hmay.out _).mono ?_; rintro e w4 ⟨rfl, hb4⟩))
        go_ret2
        exact ⟨by rw [Hfin.out, Hall.out Hvd.out]; rfl, (hb.trans (((Below.refl _ wr).alloc (Nat.le_refl _) _).mono hb.size)).trans (hb4.mono (by have := hb.size; simp; omega))⟩
      | true =>
        rw [hvd] at Hmay
        have htl := hdT_len d hvd hr
        obtain ⟨hz0, hz1⟩ : 0 ≤ d.z ∧ d.z ≤ 4096 := by simpa [mayB] using hvd
        have Hvd := hid hvd; clear hvd
        obtain ⟨z, R⟩ := d
        obtain ⟨zn, rfl⟩ : ∃ n : Nat, z = n := ⟨z.toNat, by simp only at hz0; omega⟩
        simp only at *
        have HT := hid (show numL zn ++ R = hdT ⟨(zn : Int), R⟩ from rfl)
        have Htl := hid htl; clear htl
        have hz2 : zn ≤ 4096 := by omega
        clear hz0 hz1
        go_upto_region 10 with (first
          | ((with_reducible show wpList _ _ _ ({ dst := _, op := Op.load 36 _, type := _, pos := _, after := _, guard := _ } :: _) _ _); refine wpList_load_cs rfl 36 _ rfl ⟨b, o + k * 33, none⟩ rfl _ _ Hc.out Try.underlying36 rfl Hsz.out ?_)
          | ((with_reducible show wpList _ _ _ ({ dst := _, op := Op.store _ _ _, type := _, pos := _, after := _, guard := _ } :: _) _ _); refine wpList_store_newA rfl 36 _ _ rfl rfl (hdA (zn : Int) R) rfl _ 36 (by rw [Hsz2.out]; rfl) Hsz.out hdA_one ?_)
          | ((with_reducible show wpList _ _ _ ({ dst := _, op := Op.load 36 _, type := _, pos := _, after := _, guard := _ } :: _) _ _); refine wpList_load_newA rfl 36 _ rfl rfl _ 36 _ Try.underlying36 rfl Hsz.out ?_)
          | (go_at_call 51; refine (Hmay.out _).mono ?_; rintro e w4 ⟨rfl, hb4⟩))
        have HBk := hid ((Blk.new wr (hdA (zn : Int) R) 36).later hb4)
        have HB5 := hid ((HB3.out.below ((Below.refl _ _).alloc (Nat.le_refl _) (.cells (hdA (zn : Int) R) 36))).below hb4)
        have HW := hid ((hb.trans (((Below.refl _ wr).alloc (Nat.le_refl _) (.cells (hdA (zn : Int) R) 36)).mono hb.size)).trans (hb4.mono (by have := hb.size; simp; omega)))
        have hwl : wr.heap.size < w4.heap.size := HBk.out.lt
        clear hb4
        have C1 := fun x : Later w4 => num_any zn (lat x) (by omega)
        have C4 := fun x : Later w4 => hash_any R (lat x) hr
        generalize hgw : wr.heap.size = gw at *
        clear hgw
        have C1 := hid C1; have C4 := hid C4
        have hnz := numL_len zn (by omega)
        have hRl : R.length ≤ 32 := by omega
        refine wp_region_later_tail 8 (by kernel_rfl) (by kernel_rfl) ?_
        simp only [List.take_succ_cons, List.take_zero, List.drop_succ_cons, List.drop_zero]
        repeat (first
          | (refine wpQuiet_load_one rfl 3 _ rfl ⟨gw, 0, none⟩ rfl (.int .i64 (zn : Int)) _ (by rintro _ ⟨q, rfl⟩; exact (HBk.out.later (lat_below q)).hd0) Try.underlying3 rfl ?_; simp only [Act.put, List.setIfInBounds_toArray, List.set_cons_succ, List.set_cons_zero])
          | (refine wpQuiet_load_hcG rfl 34 _ rfl ⟨gw, 1, none⟩ rfl R _ (by rintro _ ⟨q, rfl⟩; exact (HBk.out.later (lat_below q)).hdRoot hr) Try.underlying34 rfl Hsh.out ?_; simp only [Act.put, List.setIfInBounds_toArray, List.set_cons_succ, List.set_cons_zero])
          | go_big_quiet_step ((first | (go_at_call 44; with_reducible exact calls_later (C1.out _)) | (go_at_call 52; with_reducible exact calls_later (C4.out _)))))
        refine wpQuiet_nil ?_
        rintro _ ⟨q6, rfl⟩
        have hb6 := lat_below q6
        generalize lat q6 = w6 at *
        have HB6 := hid (HB5.out.below hb6)
        go_wp2_with (go_at_call 43; rw [HT.out]; refine (ws_any _ _ _ (hdT ⟨(zn : Int), R⟩) _ HB6.out (by have := Hlen.out; have := Htl.out; omega)).mono ?_; rintro e w7 ⟨rfl, hw7⟩)
        go_roundw
        case rel =>
          obtain ⟨r2, hr2, _⟩ := hw7.ex
          refine ⟨k + 1, r2, by go_num, by omega, ?_, ?_, ?_⟩
          · rw [Htk.out, List.all_append, Hva.out]; simp [Hvd.out]
          · rw [Htk.out, List.map_append, List.flatten_append]; simpa using hr2
          · exact (HW.out.trans (hb6.mono HW.out.size)).trans (hw7.below HB6.out)
        case measure => simp [intOf]; omega
    · have hke : k = hs.length := by omega
      subst hke
      have Hne := hid (show (68 :: (numL hs.length ++ ((hs.take hs.length).map hdT).flatten)) ≠ [] from fun h => by cases h)
      go_wp2_with (go_at_call 47; refine (bstring_any _ _ _ _ HB3.out Hne.out).mono ?_; rintro e w4 ⟨rfl, hw4⟩)
      go_ret2
      refine ⟨?_, hb.trans (hw4.below hb.size (fun j hj => by have := HB3.out.row j hj; omega))⟩
      have hva := Hva.out
      rw [List.take_length] at hva
      rw [Hfin.out, hva]
      simp only [if_true, putR, List.take_length]
      rfl
end Go.Proofs.Ytjpnlnbpaecciaa
