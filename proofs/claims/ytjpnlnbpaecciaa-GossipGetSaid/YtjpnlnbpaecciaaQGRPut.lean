/- the document's Put of signed heads -/
import Derived.Test.YtjpnlnbpaecciaaQGPut

set_option maxRecDepth 100000
namespace Go.Proofs.Ytjpnlnbpaecciaa
open Go.RowKit Go.Spec
set_option maxHeartbeats 2000000 in
theorem rgput_any (v : Value) (ds : List Sg) (w : World) (hv : SgsAt w v ds) (hn : ds.length ≤ 1000000000) :
    Calls Try.prog 15 #[v] w fun e w' => e = .returned (putR (putGL ds)) ∧ Below w.heap.size w w' := by
  obtain ⟨a, cap, rfl, hcap⟩ := hv.form
  by_cases h0 : ds.length < 1
  · have Hf := hid (show putGL ds = none by rw [putGL, if_pos (.inl h0)])
    have d0 : decide ((ds.length : Int) < 1) = true := decide_eq_true (by omega)
    clear h0
    go_enter Try.func15, Try.ntmps15
    go_wp2
    go_ret2
    exact ⟨by rw [Hf.out]; rfl, Below.refl _ _⟩
  have d0 : decide ((ds.length : Int) < 1) = false := decide_eq_false (by omega)
  by_cases h3 : 3 < ds.length
  · have Hf := hid (show putGL ds = none by rw [putGL, if_pos (.inr h3)])
    have d1 : decide (3 < (ds.length : Int)) = true := by simp; omega
    clear h0 h3
    go_enter Try.func15, Try.ntmps15
    go_wp2
    go_ret2
    exact ⟨by rw [Hf.out]; rfl, Below.refl _ _⟩
  have d1 : decide (3 < (ds.length : Int)) = false := by simp; omega
  have Hfin := hid (show putGL ds = (if ds.all Sg.valid then some (71 :: (numL ds.length ++ (ds.map sgT).flatten)) else none) by rw [putGL, if_neg (by omega)])
  have h3' : ds.length ≤ 3 := by omega
  have hnl := numL_len ds.length (by omega)
  clear hn h3 h0
  go_enter Try.func15, Try.ntmps15
  go_wp2_with (go_at_call 48; refine (rnum_any _ _ (by omega)).mono ?_; rintro e w1 ⟨rfl, hb1⟩)
  have Hv := hid hv; clear hv
  clear hnl
  go_loopw [4, 5] (fun s i wr => ∃ (k : Nat), i = .int .i64 k ∧ k ≤ ds.length ∧ (ds.take k).all Sg.valid = true ∧ s = sv (71 :: (numL ds.length ++ ((ds.take k).map sgT).flatten)) ∧ Below w.heap.size w wr)
    (fun _ i _ => ds.length - (intOf i).toNat)
  case atStart => exact ⟨0, rfl, by omega, by simp, by simp, hb1⟩
  case round =>
    obtain ⟨k, rfl, hk, hva, rfl, hb⟩ := hrel
    have Hva := hid hva; clear hva
    by_cases hlt : k < ds.length
    · have hdk := Hv.out.ok ds[k] (List.getElem_mem hlt)
      obtain ⟨b, o, rfl, hbl, hcell⟩ := (Hv.out.below hb).get hlt
      have Hlen := hid (show (71 :: (numL ds.length ++ ((ds.take k).map sgT).flatten)).length ≤ 100000 by
        have h1 := numL_len ds.length (by omega)
        have h2 := sgTs_len (w := w) (ds.take k) (fun x hx => Hv.out.ok x (List.mem_of_mem_take hx)) Hva.out
        simp only [List.length_cons, List.length_append, List.length_take] at h2 ⊢
        omega)
      have Htk := hid (show ds.take (k + 1) = ds.take k ++ [ds[k]] from List.take_succ_eq_append_getElem hlt)
      have Hall := hid (show ds[k].valid = false → ds.all Sg.valid = false from fun h => by
        rw [Bool.eq_false_iff]
        intro h'
        have := List.all_eq_true.1 h' ds[k] (List.getElem_mem hlt)
        rw [h] at this; cases this)
      generalize hd : ds[k] = d at *
      clear hd
      have Hput := hid (fun w0 (h : d.In w0) => rsput_any d w0 h)
      have Hin := hid (hdk.below hb)
      have hr := hdk.r32
      have Hl32 := hid hdk.at_.len32
      have Hsz := hid (show (Try.prog.info? 41).map (·.size) = some (sgA d.z d.root d.i d.sig d.p).size by rw [sgA_size hr]; exact Try.sizeSigned)
      have Hc := hid hcell; clear hcell hdk
      have hk64 : (k : Int) < (ds.length : Int) := by omega
      generalize hG : (71 :: (numL ds.length ++ ((ds.take k).map sgT).flatten)) = G at *
      cases hvd : d.valid with
      | false =>
        have hp : d.put = none := by rw [Sg.put, hvd]; rfl
        rw [hp] at Hput
        have Hvd := hid hvd; clear hvd
        go_wp2_with (first
          | ((with_reducible show wpList _ _ _ ({ dst := _, op := Op.load 41 _, type := _, pos := _, after := _, guard := _ } :: _) _ _); refine wpList_load_cs rfl 41 _ rfl ⟨b, o + k * 36, none⟩ rfl _ _ Hc.out Try.underlying41 rfl Hsz.out ?_)
          | (go_at_call 49; refine (Hput.out _ Hin.out).mono ?_; rintro e w4 ⟨rfl, hb4⟩; simp only [putR]))
        go_ret2
        exact ⟨by rw [Hfin.out, Hall.out Hvd.out]; rfl, hb.trans (hb4.mono hb.size)⟩
      | true =>
        have hp : d.put = some d.bytes := by rw [Sg.put, hvd]; rfl
        rw [hp] at Hput
        have hbl2 := bytes_len d hvd hr Hl32.out
        have htl := sgT_len d hvd hr Hl32.out
        have hgl := Hlen.out
        have Hvd := hid hvd; clear hvd
        have HsgT := hid (show numL d.bytes.length ++ d.bytes = sgT d from rfl)
        go_wp2_with (first
          | ((with_reducible show wpList _ _ _ ({ dst := _, op := Op.load 41 _, type := _, pos := _, after := _, guard := _ } :: _) _ _); refine wpList_load_cs rfl 41 _ rfl ⟨b, o + k * 36, none⟩ rfl _ _ Hc.out Try.underlying41 rfl Hsz.out ?_)
          | (go_at_call 49; refine (Hput.out _ Hin.out).mono ?_; rintro e w4 ⟨rfl, hb4⟩; simp only [putR])
          | (go_at_call 50; refine (rtext_any d.bytes _ (by omega)).mono ?_; rw [HsgT.out]; rintro e w5 ⟨rfl, hb5⟩))
        go_roundw
        case rel =>
          refine ⟨k + 1, by go_num, by omega, ?_, ?_, ?_⟩
          · rw [Htk.out, List.all_append, Hva.out]; simp [Hvd.out]
          · rw [Htk.out, List.map_append, List.flatten_append, ← hG]; simp
          · exact (hb.trans (hb4.mono hb.size)).trans (hb5.mono (by have := hb.size; have := hb4.size; omega))
        case measure => simp [intOf]; omega
    · have hke : k = ds.length := by omega
      subst hke
      go_wp2
      go_ret2
      refine ⟨?_, hb⟩
      have hva := Hva.out
      rw [List.take_length] at hva
      rw [Hfin.out, hva]
      simp only [if_true, putR, List.take_length]
      rfl
end Go.Proofs.Ytjpnlnbpaecciaa
