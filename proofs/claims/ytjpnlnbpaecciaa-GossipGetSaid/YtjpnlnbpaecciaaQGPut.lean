/- gossip.Put, and the document's -/
import Derived.Test.YtjpnlnbpaecciaaQSg

set_option maxRecDepth 100000
namespace Go.Proofs.Ytjpnlnbpaecciaa
open Go.RowKit Go.Spec
def sgT (d : Sg) : List UInt8 := numL d.bytes.length ++ d.bytes
def putGL (ds : List Sg) : Option (List UInt8) := if ds.length < 1 ∨ 3 < ds.length then none else if ds.all Sg.valid then some (71 :: (numL ds.length ++ (ds.map sgT).flatten)) else none
theorem sgT_len (d : Sg) (hv : d.valid = true) (hr : d.root.length = 32) (h32 : ∀ x ∈ d.path, x.length = 32) : (sgT d).length ≤ 17010 := by
  have h1 := bytes_len d hv hr h32
  have h2 := numL_len d.bytes.length (by omega)
  unfold sgT
  rw [List.length_append]; omega
theorem sgTs_len {w : World} : ∀ (ds : List Sg), (∀ d ∈ ds, d.In w) → ds.all Sg.valid = true → ((ds.map sgT).flatten).length ≤ 17010 * ds.length
  | [], _, _ => by simp
  | d :: ds, h, hv => by
    simp only [List.all_cons, Bool.and_eq_true] at hv
    have ih := sgTs_len ds (fun x hx => h x (List.mem_cons_of_mem _ hx)) hv.2
    have hd := h d List.mem_cons_self
    have := sgT_len d hv.1 hd.r32 hd.at_.len32
    simp only [List.map_cons, List.flatten_cons, List.length_append, List.length_cons]
    omega
set_option maxHeartbeats 2000000 in
theorem gput_any (v : Value) (ds : List Sg) (w : World) (hv : SgsAt w v ds) (hn : ds.length ≤ 1000000000) :
    Calls Try.prog 14 #[v] w fun e w' => e = .returned (putR (putGL ds)) ∧ Below w.heap.size w w' := by
  obtain ⟨a, cap, rfl, hcap⟩ := hv.form
  by_cases h0 : ds.length < 1
  · have Hf := hid (show putGL ds = none by rw [putGL, if_pos (.inl h0)])
    have d0 : ((ds.length : Int) == 0) = true := by simp; exact List.eq_nil_of_length_eq_zero (by omega)
    clear h0
    go_enter Try.func14, Try.ntmps14
    go_wp2
    go_ret2
    exact ⟨by rw [Hf.out]; rfl, Below.refl _ _⟩
  have d0 : ((ds.length : Int) == 0) = false := by
    cases ds with
    | nil => simp at h0
    | cons a l => simp; omega
  by_cases h3 : 3 < ds.length
  · have Hf := hid (show putGL ds = none by rw [putGL, if_pos (.inr h3)])
    have d1 : decide (3 < (ds.length : Int)) = true := by simp; omega
    clear h0 h3
    go_enter Try.func14, Try.ntmps14
    go_wp2
    go_ret2
    exact ⟨by rw [Hf.out]; rfl, Below.refl _ _⟩
  have d1 : decide (3 < (ds.length : Int)) = false := by simp; omega
  have Hfin := hid (show putGL ds = (if ds.all Sg.valid then some (71 :: (numL ds.length ++ (ds.map sgT).flatten)) else none) by rw [putGL, if_neg (by omega)])
  have h3' : ds.length ≤ 3 := by omega
  have hnl := numL_len ds.length (by omega)
  clear hn h3 h0
  go_enter Try.func14, Try.ntmps14
  go_upto_region 5 with (first
    | (go_at_call 44; refine (num_any _ _ (by omega)).mono ?_; rintro e w1 ⟨rfl, hb1⟩; have HB := hid ((IsB.fresh 81 5 w).below hb1))
    | (go_at_call 43; refine (ws_any w.heap.size none [] (71 :: numL ds.length) _ HB.out (by simp; omega)).mono ?_; rintro e w2 ⟨rfl, hw2⟩))
  have hb2 : Below w.heap.size w w2 := (((Below.refl _ _).alloc (Nat.le_refl _) _).trans (hb1.mono (by simp))).trans (hw2.below HB.out)
  obtain ⟨r, hB, _⟩ := hw2.ex
  simp only [List.nil_append] at hB
  have HB2 := hid hB; clear hB hw2 HB hb1
  have Hv := hid hv; clear hv
  clear hnl
  go_upto_region 6 with fail
  go_loopw [25] (fun i wr => ∃ (k : Nat) (r : Option Nat), i = .int .i64 k ∧ k ≤ ds.length ∧ (ds.take k).all Sg.valid = true ∧ Bld w.heap.size r (71 :: (numL ds.length ++ ((ds.take k).map sgT).flatten)) wr ∧ Below w.heap.size w wr)
    (fun i _ => ds.length - (intOf i).toNat)
  case atStart => exact ⟨0, _, rfl, by omega, by simp, by simpa using HB2.out, hb2⟩
  case round =>
    obtain ⟨k, r', rfl, hk, hva, hB, hb⟩ := hrel
    have HB3 := hid hB; clear hB
    have Hva := hid hva; clear hva
    by_cases hlt : k < ds.length
    · have hdk := Hv.out.ok ds[k] (List.getElem_mem hlt)
      obtain ⟨b, o, rfl, hbl, hcell⟩ := (Hv.out.below hb).get hlt
      have Hlen := hid (show (71 :: (numL ds.length ++ ((ds.take k).map sgT).flatten)).length ≤ 100000 by
        have h1 := numL_len ds.length (by omega)
        have h2 := sgTs_len (w := w) (ds.take k) (fun x hx => Hv.out.ok x (List.mem_of_mem_take hx)) Hva.out
        simp only [List.length_cons, List.length_append, List.length_take] at h2 ⊢
        omega)
      have htk : ds.take (k + 1) = ds.take k ++ [ds[k]] := List.take_succ_eq_append_getElem hlt
      have Hall := hid (show ds[k].valid = false → ds.all Sg.valid = false from fun h => by
        rw [Bool.eq_false_iff]
        intro h'
        have := List.all_eq_true.1 h' ds[k] (List.getElem_mem hlt)
        rw [h] at this; cases this)
      have Htk := hid htk; clear htk
      generalize hd : ds[k] = d at *
      clear hd
      have Hput := hid (fun w0 (h : d.In w0) => sput_any d w0 h)
      have Hin := hid (hdk.below hb)
      have hr := hdk.r32
      have Hl32 := hid hdk.at_.len32
      have Hsz := hid (show (Try.prog.info? 41).map (·.size) = some (sgA d.z d.root d.i d.sig d.p).size by rw [sgA_size hr]; exact Try.sizeSigned)
      have Hsz2 := hid (sgA_size (z := d.z) (i := d.i) (sig := d.sig) (p := d.p) hr)
      have Hc := hid hcell; clear hcell hdk
      have hk64 : (k : Int) < (ds.length : Int) := by omega
      cases hvd : d.valid with
      | false =>
        have hp : d.put = none := by rw [Sg.put, hvd]; rfl
        rw [hp] at Hput
        have Hvd := hid hvd; clear hvd
        go_wp2_with (first
          | ((with_reducible show wpList _ _ _ ({ dst := _, op := Op.load 41 _, type := _, pos := _, after := _, guard := _ } :: _) _ _); refine wpList_load_cs rfl 41 _ rfl ⟨b, o + k * 36, none⟩ rfl _ _ Hc.out Try.underlying41 rfl Hsz.out ?_)
          | ((with_reducible show wpList _ _ _ ({ dst := _, op := Op.store _ _ _, type := _, pos := _, after := _, guard := _ } :: _) _ _); refine wpList_store_newA rfl 41 _ _ rfl rfl (sgA d.z d.root d.i d.sig d.p) rfl _ 41 (by rw [Hsz2.out]; rfl) Hsz.out (sgA_one rfl) ?_)
          | ((with_reducible show wpList _ _ _ ({ dst := _, op := Op.load 41 _, type := _, pos := _, after := _, guard := _ } :: _) _ _); refine wpList_load_newA rfl 41 _ rfl rfl _ 41 _ Try.underlying41 rfl Hsz.out ?_)
          | (go_at_call 45; refine (Hput.out _ (Hin.out.below ((Below.refl _ _).alloc (Nat.le_refl _) _))).mono ?_; rintro e w4 ⟨rfl, hb4⟩; simp only [putR]))
        go_ret2
        exact ⟨by rw [Hfin.out, Hall.out Hvd.out]; rfl, (hb.trans (((Below.refl _ wr).alloc (Nat.le_refl _) _).mono hb.size)).trans (hb4.mono (by have := hb.size; simp; omega))⟩
      | true =>
        have hp : d.put = some d.bytes := by rw [Sg.put, hvd]; rfl
        rw [hp] at Hput
        have hbl2 := bytes_len d hvd hr Hl32.out
        have Htl := hid (sgT_len d hvd hr Hl32.out)
        have Hvd := hid hvd; clear hvd
        have HsgT := hid (show numL d.bytes.length ++ d.bytes = sgT d from rfl)
        go_wp2_with (first
          | ((with_reducible show wpList _ _ _ ({ dst := _, op := Op.load 41 _, type := _, pos := _, after := _, guard := _ } :: _) _ _); refine wpList_load_cs rfl 41 _ rfl ⟨b, o + k * 36, none⟩ rfl _ _ Hc.out Try.underlying41 rfl Hsz.out ?_)
          | ((with_reducible show wpList _ _ _ ({ dst := _, op := Op.store _ _ _, type := _, pos := _, after := _, guard := _ } :: _) _ _); refine wpList_store_newA rfl 41 _ _ rfl rfl (sgA d.z d.root d.i d.sig d.p) rfl _ 41 (by rw [Hsz2.out]; rfl) Hsz.out (sgA_one rfl) ?_)
          | ((with_reducible show wpList _ _ _ ({ dst := _, op := Op.load 41 _, type := _, pos := _, after := _, guard := _ } :: _) _ _); refine wpList_load_newA rfl 41 _ rfl rfl _ 41 _ Try.underlying41 rfl Hsz.out ?_)
          | (go_at_call 45; refine (Hput.out _ (Hin.out.below ((Below.refl _ _).alloc (Nat.le_refl _) _))).mono ?_; rintro e w4 ⟨rfl, hb4⟩; simp only [putR])
          | (go_at_call 46; refine (text_any d.bytes _ (by omega)).mono ?_; rw [HsgT.out]; rintro e w5 ⟨rfl, hb5⟩; have HB5 := hid (((HB3.out.below ((Below.refl _ _).alloc (Nat.le_refl _) _)).below hb4).below hb5))
          | (go_at_call 43; refine (ws_any _ _ _ (sgT d) _ HB5.out (by have := Hlen.out; have := Htl.out; omega)).mono ?_; rintro e w6 ⟨rfl, hw6⟩))
        go_roundw
        case rel =>
          obtain ⟨r2, hr2, _⟩ := hw6.ex
          refine ⟨k + 1, r2, by go_num, by omega, ?_, ?_, ?_⟩
          · rw [Htk.out, List.all_append, Hva.out]; simp [Hvd.out]
          · rw [Htk.out, List.map_append, List.flatten_append]; simpa using hr2
          · exact (((hb.trans (((Below.refl _ wr).alloc (Nat.le_refl _) _).mono hb.size)).trans (hb4.mono (by have := hb.size; simp; omega))).trans (hb5.mono (by have := hb.size; have := hb4.size; simp at this; omega))).trans (hw6.below HB5.out)
        case measure => simp [intOf]; omega
    · have hke : k = ds.length := by omega
      subst hke
      have Hne := hid (show (71 :: (numL ds.length ++ ((ds.take ds.length).map sgT).flatten)) ≠ [] from fun h => by cases h)
      go_wp2_with (go_at_call 47; refine (bstring_any _ _ _ _ HB3.out Hne.out).mono ?_; rintro e w4 ⟨rfl, hw4⟩)
      go_ret2
      refine ⟨?_, hb.trans (hw4.below hb.size (fun j hj => by have := HB3.out.row j hj; omega))⟩
      have hva := Hva.out
      rw [List.take_length] at hva
      rw [Hfin.out, hva]
      simp only [if_true, putR, List.take_length]
      rfl
end Go.Proofs.Ytjpnlnbpaecciaa
