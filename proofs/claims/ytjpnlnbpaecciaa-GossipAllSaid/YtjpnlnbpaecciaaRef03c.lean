import Derived.Test.YtjpnlnbpaecciaaRef03b
set_option maxRecDepth 100000
namespace Go.Proofs.Ytjpnlnbpaecciaa
open Go.RowKit Go.Spec
set_option maxHeartbeats 1000000 in
theorem rhashes_any (v : Value) (hs : List (List UInt8)) (w : World) (hv : SlAt w 32 v (hcs hs)) (hn : hs.length ≤ 9223372036854775807) :
    Calls Try.prog 65 #[v] w fun e w' => e = .returned (sv (hashesL hs)) ∧ Below w.heap.size w w' := by
  obtain ⟨a, cap, rfl, hcap⟩ := hv.form
  rw [hcs_length] at *
  by_cases h64 : 64 < hs.length
  · have Hfin := hid (show hashesL hs = [] by rw [hashesL, if_pos h64])
    go_enter Try.func65, Try.ntmps65
    go_wp2
    go_ret
    exact ⟨by rw [Hfin.out]; rfl, Below.refl _ _⟩
  · have Hfin := hid (show hashesL hs = numL hs.length ++ hs.flatten by rw [hashesL, if_neg h64])
    have hnl := numL_len hs.length (by omega)
    have h64' : hs.length ≤ 64 := by omega
    have hd : decide (64 < (hs.length : Int)) = false := by simp; omega
    clear h64 hn
    have Hv := hid hv; clear hv
    go_enter Try.func65, Try.ntmps65
    go_wp2_with (go_at_call 48; refine (rnum_any _ _ (by omega)).mono ?_; rintro e w1 ⟨rfl, hb1⟩)
    go_loopw [3, 4] (fun s i wr => ∃ (k : Nat), i = .int .i64 k ∧ k ≤ hs.length ∧ s = sv (numL hs.length ++ (hs.take k).flatten) ∧ Below w.heap.size w wr)
      (fun _ i _ => hs.length - (intOf i).toNat)
    case atStart => exact ⟨0, rfl, by omega, by simp, hb1⟩
    case round =>
      obtain ⟨k, rfl, hk, rfl, hb⟩ := hrel
      have hfl := flatten_len (hs := hs.take k) (fun x hx => Hv.out.len32 x (List.mem_of_mem_take hx))
      rw [List.length_take, Nat.min_eq_left hk] at hfl
      have hfl2 : ((hs.take k).flatten).length ≤ 2048 := by omega
      have htk := fun (hlt : k < hs.length) => (show (hs.take (k + 1)).flatten = (hs.take k).flatten ++ hs[k] by rw [List.take_succ_eq_append_getElem hlt, List.flatten_append, List.flatten_singleton])
      generalize hF : (hs.take k).flatten = F at *
      have HF := hid hF
      clear hfl hF
      by_cases hlt : k < hs.length
      · have htk1 := hid (htk hlt)
        clear htk
        obtain ⟨b, o, rfl, hbl, hcl, hcell⟩ := (Hv.out.below hb (Nat.le_refl _)).at (i := k) (cs := hs[k].map bcell) (by simp [hcs, hlt])
        generalize hs[k] = h at *
        have hcl' : h.length = 32 := by simpa using hcl
        have Hsz := hid (show (Try.prog.info? 34).map (·.size) = some h.length by rw [hcl']; exact Try.sizeHash)
        have Hcl := hid hcl'
        have hcl2 : h.length ≤ 32 := by omega
        have Hcell := hid hcell
        clear hcell hcl hcl'
        go_wp2_with (first
          | (refine wpList_load_hc rfl 34 _ rfl ⟨b, o + k * 32, none⟩ rfl h _ Hcell.out Try.underlying34 rfl Hsz.out ?_)
          | (go_at_call 53; refine (rhash_any h _ Hcl.out).mono ?_; rintro e w3 ⟨rfl, hb3⟩))
        go_roundw
        case rel =>
          refine ⟨k + 1, by go_num, by omega, ?_, hb.trans (hb3.mono hb.size)⟩
          rw [htk1.out, ← List.append_assoc]
        case measure => simp [intOf]; omega
      · have hke : k = hs.length := by omega
        subst hke
        have HF2 := hid (show hs.flatten = F by rw [← HF.out, List.take_length])
        clear htk
        go_wp2
        go_ret
        exact ⟨by rw [Hfin.out, HF2.out]; rfl, hb⟩
set_option maxHeartbeats 1000000 in
theorem runhashes_any (l : List UInt8) (w : World) (hn : l.length ≤ 9223372036854775807) :
    Calls Try.prog 94 #[sv l] w fun e w' => UH l e w w' := by
  obtain ⟨i0, hi, hz0, hz1, hz2⟩ := info_parts Try.infoHash
  cases hr : rd 0 l with
  | none =>
    have Hfin := hid (show unhashesL l = none by rw [unhashesL, hr])
    go_enter Try.func94, Try.ntmps94
    go_wp2_with (go_at_call 73; refine (rread_no l _ hn hr).mono ?_; rintro e w1 ⟨rfl, hb⟩)
    go_ret3
    exact UH.mk_no Hfin.out rfl hb
  | some x =>
    obtain ⟨n, r⟩ := x
    obtain ⟨hn64, hrl⟩ := rd_some l 0 n r (by omega) hr
    have Hn64 := hid hn64; clear hn64
    by_cases h64 : 64 < n
    · have Hfin := hid (show unhashesL l = none by rw [unhashesL, hr]; simp [h64])
      have Hr := hid hr; clear hr
      go_enter Try.func94, Try.ntmps94
      go_wp2_with (go_at_call 73; refine (rread_yes l _ hn Hr.out).mono ?_; rintro e w1 ⟨rfl, hb⟩)
      go_ret3
      exact UH.mk_no Hfin.out rfl hb
    · have h64' : n ≤ 64 := by omega
      have hd64 : decide ((64 : Int) < (n : Int)) = false := by simp; omega
      have hq : IntKind.u64.wrap ((32 : Int) * (n : Int)) = (32 : Int) * (n : Int) := by rw [IntKind.wrap_u64]; omega
      have hq2 : IntKind.i64.wrap (n : Int) = (n : Int) := by rw [IntKind.wrap_i64]; omega
      clear h64
      have Hr := hid hr; clear hr
      by_cases hshort : r.length < n * 32
      · have Hfin := hid (show unhashesL l = none by rw [unhashesL, Hr.out]; simp; omega)
        have hd : decide ((r.length : Int) < (32 : Int) * (n : Int)) = true := by simp; omega
        go_enter Try.func94, Try.ntmps94
        go_wp2_with (go_at_call 73; refine (rread_yes l _ hn Hr.out).mono ?_; rintro e w1 ⟨rfl, hb⟩)
        go_ret3
        exact UH.mk_no Hfin.out rfl hb
      · have Hfin := hid (show unhashesL l = some (chunks r n, r.drop (n * 32)) by rw [unhashesL, Hr.out]; simp; omega)
        have hd : decide ((r.length : Int) < (32 : Int) * (n : Int)) = false := by simp; omega
        have hlong : n * 32 ≤ r.length := by omega
        clear hshort
        go_enter Try.func94, Try.ntmps94
        go_wp2_with (go_at_call 73; refine (rread_yes l _ hn Hr.out).mono ?_; rintro e w1 ⟨rfl, hb⟩)
        go_loopw [6, 8, 9] (fun s v i wr => ∃ (k : Nat), k ≤ n ∧ i = .int .i64 k ∧ s = sv (r.drop (k * 32)) ∧ wr.ownsRow w.heap.size 34 32 v k (hflat (chunks r k)) ∧ Below w.heap.size w wr)
          (fun _ _ i _ => n - (intOf i).toNat)
        case atStart => exact ⟨0, by omega, rfl, by simp, World.ownsRow_nil _ _ _ _, hb⟩
        case round =>
          obtain ⟨k, hk, rfl, rfl, hown, hb2⟩ := hrel
          by_cases hlt : k < n
          · have Hs := hid (show 32 ≤ (r.drop (k * 32)).length by simp; omega)
            have Hs2 := hid (show (r.drop (k * 32)).length ≤ 9223372036854775807 by simp; omega)
            have Hch := hid (show chunks r (k + 1) = chunks r k ++ [(r.drop (k * 32)).take 32] from rfl)
            have Hdr := hid (show (r.drop (k * 32)).drop 32 = r.drop ((k + 1) * 32) by rw [List.drop_drop]; congr 1; omega)
            have hL : ((r.drop (k * 32)).take 32).length = 32 := by simp; omega
            generalize hLL : (r.drop (k * 32)).take 32 = L at *
            have HLL := hid hLL
            have HL := hid hL
            have Hsz := hid (show (Try.prog.info? 34).map (·.size) = some L.length by rw [hL]; exact Try.sizeHash)
            clear hL hLL
            go_wp2_with (first
              | (go_at_call 78; refine (runhash_yes _ _ Hs.out Hs2.out).mono ?_; rw [HLL.out, Hdr.out]; rintro e w3 ⟨rfl, hb3⟩)
              | (refine wpList_store_new rfl 34 _ _ rfl rfl L rfl _ 34 (by rw [HL.out]; rfl) Hsz.out ?_)
              | (refine wpList_load_new rfl 34 _ rfl rfl L 34 _ Try.underlying34 rfl Hsz.out ?_)
              | (refine wpList_buildSlice_one rfl 37 34 _ rfl 32 (hv zero32) (hv L) (hc L) rfl Try.underlying37 Try.infoHash2 rfl (by rw [hc_size, HL.out]) (by decide) (by decide) ?_)
              | (at_builtin; go_must (refine wpList_app rfl _ _ 37 rfl w.heap.size 34 i0 (hv zero32) 32 32 Try.underlying37 hi hz0 hz1 hz2 rfl (by decide) _ k (hflat (chunks r k)) rfl ?c1 ⟨(w3.alloc (.cells (hc L) 34)).heap.size, 0, none⟩ 1 1 (L.map bcell) rfl ?c2 ?c3 ?c4 ?c5 ?c6 ?c7 ?_)))
            case c1 => exact ((ownsRow_fr hown (Fr.of_below hb3 (fun _ => False)) (fun _ _ h => h)).alloc _).alloc _
            case c2 => simp [HL.out]
            case c3 =>
              intro j u hj
              exact row_alloc (w := w3.alloc (.cells (hc L) 34)) (cs := hc L) (t := 34) (fr := (0, 0)) j u (by rw [hc_toList]; exact hj)
            case c4 => exact bcell_one L
            case c5 => unfold maxLen; omega
            case c6 => omega
            case c7 => have := hb2.size; have := hb3.size; simp; omega
            intro v' w5 hown' hgrow hat
            go_wp2
            go_roundw
            case rel =>
              refine ⟨k + 1, by omega, by go_num, by rfl, ?_, ?_⟩
              · rw [Hch.out, hflat_snoc]; exact hown'
              · have hb4 : Below w.heap.size w w3 := hb2.trans (hb3.mono hb2.size)
                have hs4 := hb4.size
                refine (((hb4.alloc hs4 _).alloc (by simp; omega) _).grown hgrow (by simp; omega) ?_)
                intro q hq
                exact (hown.lt q hq).1
            case measure => simp [intOf]; omega
          · have hke : k = n := by omega
            subst hke
            go_wp2
            go_ret3
            exact UH.mk_yes Hfin.out _ rfl (by rw [chunks_length]; exact hown) hb2
end Go.Proofs.Ytjpnlnbpaecciaa
