/- the document's PutKnown -/
import Derived.Test.YtjpnlnbpaecciaaQGKnown

set_option maxRecDepth 100000
namespace Go.Proofs.Ytjpnlnbpaecciaa
open Go.RowKit Go.Spec
set_option maxHeartbeats 2000000 in
theorem rgputk_any (v : Value) (hs : List Hd) (w : World) (hv : HdsAt w v hs) (hn : hs.length ≤ 1000000000) :
    Calls Try.prog 17 #[v] w fun e w' => e = .returned (putR (putKL hs)) ∧ Below w.heap.size w w' := by
  obtain ⟨a, cap, rfl, hcap⟩ := hv.form
  by_cases h3 : 64 < hs.length
  · have Hf := hid (show putKL hs = none by rw [putKL, if_pos h3])
    have d1 : decide (64 < (hs.length : Int)) = true := decide_eq_true (by omega)
    clear h3
    go_enter Try.func17, Try.ntmps17
    go_wp2
    go_ret2
    exact ⟨by rw [Hf.out]; rfl, Below.refl _ _⟩
  have d1 : decide (64 < (hs.length : Int)) = false := decide_eq_false (by omega)
  have Hfin := hid (show putKL hs = (if hs.all mayB then some (68 :: (numL hs.length ++ (hs.map hdT).flatten)) else none) by rw [putKL, if_neg (by omega)])
  have h3' : hs.length ≤ 64 := by omega
  have hnl := numL_len hs.length (by omega)
  clear hn h3
  go_enter Try.func17, Try.ntmps17
  go_wp2_with (go_at_call 48; refine (rnum_any _ _ (by omega)).mono ?_; rintro e w1 ⟨rfl, hb1⟩)
  have Hv := hid hv; clear hv
  clear hnl
  go_loopw [4, 5] (fun s i wr => ∃ (k : Nat), i = .int .i64 k ∧ k ≤ hs.length ∧ (hs.take k).all mayB = true ∧ s = sv (68 :: (numL hs.length ++ ((hs.take k).map hdT).flatten)) ∧ Below w.heap.size w wr)
    (fun _ i _ => hs.length - (intOf i).toNat)
  case atStart => exact ⟨0, rfl, by omega, by simp, by simp, hb1⟩
  case round =>
    obtain ⟨k, rfl, hk, hva, rfl, hb⟩ := hrel
    have Hva := hid hva; clear hva
    by_cases hlt : k < hs.length
    · have hdk := Hv.out.ok hs[k] (List.getElem_mem hlt)
      obtain ⟨b, o, rfl, hbl, hcz, hcr⟩ := (Hv.out.below hb).cells hlt
      have Hlen := hid (show (68 :: (numL hs.length ++ ((hs.take k).map hdT).flatten)).length ≤ 100000 by
        have h1 := numL_len hs.length (by omega)
        have h2 := hdTs_len (hs.take k) (fun x hx => Hv.out.ok x (List.mem_of_mem_take hx)) Hva.out
        simp only [List.length_cons, List.length_append, List.length_take] at h2 ⊢
        omega)
      have Htk := hid (show hs.take (k + 1) = hs.take k ++ [hs[k]] from List.take_succ_eq_append_getElem hlt)
      have Hall := hid (show mayB hs[k] = false → hs.all mayB = false from fun h => by
        rw [Bool.eq_false_iff]
        intro h'
        have := List.all_eq_true.1 h' hs[k] (List.getElem_mem hlt)
        rw [h] at this; cases this)
      generalize hd : hs[k] = d at *
      clear hd
      obtain ⟨z, R⟩ := d
      simp only at hdk hcz hcr
      have hr := hdk
      have Hsh := hid (show (Try.prog.info? 34).map (·.size) = some R.length by rw [hr]; exact Try.sizeHash)
      have Hcr := hid hcr; clear hcr hdk
      have hk64 : (k : Int) < (hs.length : Int) := by omega
      generalize hG : (68 :: (numL hs.length ++ ((hs.take k).map hdT).flatten)) = G at *
      by_cases hz0 : z < 0
      · have d2 : decide (z < 0) = true := decide_eq_true hz0
        have Hvd := hid (show mayB ⟨z, R⟩ = false by simp [mayB]; omega)
        clear hz0
        go_wp2
        go_ret2
        exact ⟨by rw [Hfin.out, Hall.out Hvd.out]; rfl, hb⟩
      have d2 : decide (z < 0) = false := decide_eq_false hz0
      by_cases hz1 : 4096 < z
      · have d3 : decide (4096 < z) = true := decide_eq_true hz1
        have Hvd := hid (show mayB ⟨z, R⟩ = false by simp [mayB]; omega)
        clear hz0 hz1
        go_wp2
        go_ret2
        exact ⟨by rw [Hfin.out, Hall.out Hvd.out]; rfl, hb⟩
      have d3 : decide (4096 < z) = false := decide_eq_false hz1
      have hvd : mayB ⟨z, R⟩ = true := by simp [mayB]; omega
      have Hvd := hid hvd
      obtain ⟨zn, rfl⟩ : ∃ n : Nat, z = n := ⟨z.toNat, by omega⟩
      have HT := hid (show numL zn ++ R = hdT ⟨(zn : Int), R⟩ from rfl)
      have hz2 : zn ≤ 4096 := by omega
      clear hz0 hz1 hvd
      have hnz := numL_len zn (by omega)
      have hRl : R.length ≤ 32 := by omega
      have hgl := Hlen.out
      have C1 := hid (fun x : Later wr => rnum_any zn (lat x) (by omega))
      have C4 := hid (fun x : Later wr => rhash_any R (lat x) hr)
      have Hcz := hid (fun q : Later wr => (lat_cell q b (o + k * 33) hbl).trans hcz)
      go_upto_region 9 with fail
      refine wp_region_later (by kernel_rfl) (by kernel_rfl) ?_
      repeat (first
        | (refine wpQuiet_load_one rfl 3 _ rfl ⟨b, o + k * 33, none⟩ rfl (.int .i64 (zn : Int)) _ (by rintro _ ⟨q, rfl⟩; exact Hcz.out q) Try.underlying3 rfl ?_; simp only [Act.put, List.setIfInBounds_toArray, List.set_cons_succ, List.set_cons_zero])
        | (refine wpQuiet_load_hcG rfl 34 _ rfl ⟨b, o + k * 33 + 1, none⟩ rfl R _ (by rintro _ ⟨q, rfl⟩; exact lat_cells q hbl Hcr.out) Try.underlying34 rfl Hsh.out ?_; simp only [Act.put, List.setIfInBounds_toArray, List.set_cons_succ, List.set_cons_zero])
        | go_big_quiet_step ((first | (go_at_call 48; with_reducible exact calls_later (C1.out _)) | (go_at_call 53; with_reducible exact calls_later (C4.out _)))))
      refine wpQuiet_nil ?_
      rintro _ ⟨q6, rfl⟩
      have hb6 := lat_below q6
      generalize lat q6 = w6 at *
      go_wp2
      go_roundw
      case rel =>
        refine ⟨k + 1, by go_num, by omega, ?_, ?_, hb.trans (hb6.mono hb.size)⟩
        · rw [Htk.out, List.all_append, Hva.out]; simp [Hvd.out]
        · rw [Htk.out, List.map_append, List.flatten_append, ← hG]; simp [hdT]
      case measure => simp [intOf]; omega
    · have hke : k = hs.length := by omega
      subst hke
      go_wp2
      go_ret2
      refine ⟨?_, hb⟩
      have hva := Hva.out
      rw [List.take_length] at hva
      rw [Hfin.out, hva]
      simp only [if_true, putR, List.take_length]
      rfl
end Go.Proofs.Ytjpnlnbpaecciaa
