/- gossip.GetKnown -/
import Derived.Test.YtjpnlnbpaecciaaQGKnown

set_option maxRecDepth 100000
namespace Go.Proofs.Ytjpnlnbpaecciaa
open Go.RowKit Go.Spec
theorem Try.infoHead : (Try.prog.info? 36).map (fun i => (i.zero, i.size, i.bytes)) = some (some (.agg (hdA 0 zero32)), 33, 40) := by kernel_rfl
theorem Try.infoHead2 : (Try.prog.info? 36).map (fun i => (i.zero, i.size)) = some (some (.agg (hdA 0 zero32)), 33) := by kernel_rfl
/-- what GetKnown answers -/
structure GK (l : List UInt8) (e : Ending) (w w' : World) : Prop where
  no : getKL l = none → e = .returned (.tuple #[.slice none 0 0, .int .i64 10])
  yes : ∀ hs, getKL l = some hs → ∃ v, e = .returned (.tuple #[v, .int .i64 0]) ∧ HdsAt w' v hs
  below : Below w.heap.size w w'
theorem GK.mk_no {l : List UInt8} {e : Ending} {w w' : World} (h : getKL l = none) (he : e = .returned (.tuple #[.slice none 0 0, .int .i64 10])) (hb : Below w.heap.size w w') : GK l e w w' :=
  ⟨fun _ => he, fun hs h' => (by rw [h] at h'; cases h'), hb⟩
set_option maxHeartbeats 4000000 in
theorem gkn_any (l : List UInt8) (w : World) (hl : l.length ≤ 1000000000) :
    Calls Try.prog 33 #[sv l] w fun e w' => GK l e w w' := by
  obtain ⟨i0, hi, hz0, hz1, hz2⟩ := info_parts Try.infoHead
  have CT := hid (fun w0 => count_any l 68 w0 hl)
  have HNlt := hid (countN_lt l 68)
  have HRle := hid (countR_le l 68)
  have Hl := hid hl
  have hG := hid (show getKL l = if countB l 68 = false ∨ 64 < countN l 68 then none else
    match hdsP (countN l 68) (countR l 68) with
    | some (hs, []) => some hs
    | _ => none from rfl)
  generalize countN l 68 = N at *
  generalize countR l 68 = R at *
  cases hB : countB l 68 with
  | false =>
    rw [hB] at CT
    have Hf := hid (show getKL l = none by rw [hG.out, hB]; simp)
    clear hB
    go_enter Try.func33, Try.ntmps33
    go_wp2_with (go_at_call 70; refine (CT.out _).mono ?_; rintro e w1 ⟨rfl, hb1⟩)
    go_ret2
    exact GK.mk_no Hf.out rfl hb1
  | true =>
  rw [hB] at CT
  have Hn64 := HNlt
  by_cases h64 : 64 < N
  · have Hf := hid (show getKL l = none by rw [hG.out]; simp [h64])
    have hd : decide ((64 : Int) < (N : Int)) = true := decide_eq_true (by omega)
    clear hB
    go_enter Try.func33, Try.ntmps33
    go_wp2_with (go_at_call 70; refine (CT.out _).mono ?_; rintro e w1 ⟨rfl, hb1⟩)
    go_ret2
    exact GK.mk_no Hf.out rfl hb1
  have hN : N ≤ 64 := by omega
  have hd : decide ((64 : Int) < (N : Int)) = false := decide_eq_false (by omega)
  have HG := hid (show getKL l = match hdsP N R with | some (hs, []) => some hs | _ => none by rw [hG.out, hB, if_neg (by simp; omega)])
  clear hB h64 hG
  go_enter Try.func33, Try.ntmps33
  go_upto_region 6 with (go_at_call 70; refine (CT.out _).mono ?_; rintro e w1 ⟨rfl, hb1⟩)
  go_loopw [7, 5, 26] (fun o s i wr => ∃ (k : Nat) (S : List UInt8) (out : List Hd), i = .int .u64 k ∧ k ≤ N ∧ s = sv S ∧ S.length ≤ R.length ∧ out.length = k ∧ hdsP N R = (hdsP (N - k) S).map (fun x => (out ++ x.1, x.2)) ∧ (∀ h ∈ out, h.r.length = 32) ∧ wr.ownsRow w.heap.size 36 33 o k (hdF out) ∧ Below w.heap.size w wr)
    (fun _ _ i _ => N - (intOf i).toNat)
  case atStart => exact ⟨0, R, [], rfl, by omega, rfl, by omega, rfl, by simp, fun _ h => by simp at h, World.ownsRow_nil _ _ _ _, hb1⟩
  case round =>
    obtain ⟨k, S, out, rfl, hk, rfl, hS, hol, hp, hok, hown, hb⟩ := hrel
    obtain ⟨oa, ocap, rfl, hoc⟩ := ownsRow_form hown
    have Hown := hid hown; have Hp := hid hp; have Hok := hid hok; have Hol := hid hol; have HS := hid hS
    clear hown hp hok hol hS
    have hSl : S.length ≤ 9223372036854775807 := by have := HS.out; have := HRle.out; have := Hl.out; omega
    have hRl : (rdR S).length ≤ 9223372036854775807 := by have := rdR_le S; omega
    by_cases hlt : k < N
    · have C1 := hid (fun w0 => read_gen S w0 hSl)
      have C2 := hid (fun w0 => unhash_gen (rdR S) w0 hRl)
      have hnl := rdN_lt S
      have Hst := hid (fun h : hdB S = false => hdsP_stop Hp.out hlt h)
      have Hsp := hid (fun h : hdB S = true => hdsP_step Hp.out hlt h)
      have hT := unT_len (rdR S)
      have HUle := hid (unR_le (rdR S)); have HRdle := hid (rdR_le S)
      have Hdef := hid (show hdB S = (rdB S && unB (rdR S) && decide (rdN S ≤ 4096)) from rfl)
      have Hval := hid (show hdV S = ⟨rdN S, unT (rdR S)⟩ from rfl)
      generalize hT' : unT (rdR S) = T at *
      have Hsz := hid (show (Try.prog.info? 34).map (·.size) = some T.length by rw [hT]; exact Try.sizeHash)
      generalize hNS : rdN S = NS at *
      clear hNS hT'
      generalize unR (rdR S) = U at *
      generalize rdR S = RS at *
      have Hnl := hid hnl; clear hnl hSl hRl
      cases hA : rdB S with
      | false =>
        rw [hA] at C1
        have Hf := hid (show getKL l = none by rw [HG.out, Hst.out (by rw [Hdef.out, hA]; rfl)])
        go_wp2_with (first
          | (go_at_call 76; refine (C1.out _).mono ?_; rintro e w2 ⟨rfl, hb2⟩)
          | (go_at_call 77; refine (C2.out _).mono ?_; rintro e w3 ⟨rfl, hb3⟩)
          | ((with_reducible show wpList _ _ _ ({ dst := _, op := Op.store _ _ _, type := _, pos := _, after := _, guard := _ } :: _) _ _); refine wpList_store_new rfl 34 _ _ rfl rfl T rfl _ 34 (by rw [hT]; rfl) Hsz.out ?_))
        go_ret2
        exact GK.mk_no Hf.out rfl ((bth hb (bth hb2 hb3)).alloc (bth hb (bth hb2 hb3)).size _)
      | true =>
      rw [hA] at C1
      cases hU : unB RS with
      | false =>
        rw [hU] at C2
        have Hf := hid (show getKL l = none by rw [HG.out, Hst.out (by rw [Hdef.out, hA, hU]; rfl)])
        go_wp2_with (first
          | (go_at_call 76; refine (C1.out _).mono ?_; rintro e w2 ⟨rfl, hb2⟩)
          | (go_at_call 77; refine (C2.out _).mono ?_; rintro e w3 ⟨rfl, hb3⟩)
          | ((with_reducible show wpList _ _ _ ({ dst := _, op := Op.store _ _ _, type := _, pos := _, after := _, guard := _ } :: _) _ _); refine wpList_store_new rfl 34 _ _ rfl rfl T rfl _ 34 (by rw [hT]; rfl) Hsz.out ?_))
        go_ret2
        exact GK.mk_no Hf.out rfl ((bth hb (bth hb2 hb3)).alloc (bth hb (bth hb2 hb3)).size _)
      | true =>
      rw [hU] at C2
      by_cases h4 : 4096 < NS
      · have d4 : decide ((4096 : Int) < (NS : Int)) = true := decide_eq_true (by omega)
        have Hf := hid (show getKL l = none by rw [HG.out, Hst.out (by rw [Hdef.out, hA, hU]; simp; omega)])
        clear h4
        go_wp2_with (first
          | (go_at_call 76; refine (C1.out _).mono ?_; rintro e w2 ⟨rfl, hb2⟩)
          | (go_at_call 77; refine (C2.out _).mono ?_; rintro e w3 ⟨rfl, hb3⟩)
          | ((with_reducible show wpList _ _ _ ({ dst := _, op := Op.store _ _ _, type := _, pos := _, after := _, guard := _ } :: _) _ _); refine wpList_store_new rfl 34 _ _ rfl rfl T rfl _ 34 (by rw [hT]; rfl) Hsz.out ?_))
        go_ret2
        exact GK.mk_no Hf.out rfl ((bth hb (bth hb2 hb3)).alloc (bth hb (bth hb2 hb3)).size _)
      · have d4 : decide ((4096 : Int) < (NS : Int)) = false := decide_eq_false (by omega)
        have h4' : NS ≤ 4096 := by omega
        have Hnext := hid (Hsp.out (by rw [Hdef.out, hA, hU]; simp; omega))
        clear h4 Hst Hsp
        have hkN : (k : Int) < (N : Int) := by omega
        go_wp2_with (first
          | (go_at_call 76; refine (C1.out _).mono ?_; rintro e w2 ⟨rfl, hb2⟩)
          | (go_at_call 77; refine (C2.out _).mono ?_; rintro e w3 ⟨rfl, hb3⟩)
          | ((with_reducible show wpList _ _ _ ({ dst := _, op := Op.store _ _ _, type := _, pos := _, after := _, guard := _ } :: _) _ _); refine wpList_store_new rfl 34 _ _ rfl rfl T rfl _ 34 (by rw [hT]; rfl) Hsz.out ?_)
          | ((with_reducible show wpList _ _ _ ({ dst := _, op := Op.load 34 _, type := _, pos := _, after := _, guard := none } :: _) _ _); refine wpList_load_new rfl 34 _ rfl rfl T 34 _ Try.underlying34 rfl Hsz.out ?_)
          | ((with_reducible show wpList _ _ _ ({ dst := _, op := Op.build 36 _, type := _, pos := _, after := _, guard := _ } :: _) _ _); refine wpList_buildP rfl 36 _ rfl (.agg (hdA (NS : Int) T)) (fun w => buildHead (NS : Int) T hT w) ?_)
          | (refine wpList_buildSlice_one rfl 23 36 _ rfl 33 (.agg (hdA 0 zero32)) (.agg (hdA (NS : Int) T)) (hdA (NS : Int) T) rfl Try.underlying23 Try.infoHead2 rfl (hdA_size hT) (by decide) (by decide) ?_)
          | (at_builtin; go_must (refine wpList_app rfl _ _ 23 rfl w.heap.size 36 i0 (.agg (hdA 0 zero32)) 33 40 Try.underlying23 hi hz0 hz1 hz2 rfl (by decide) _ k (hdF out) rfl ?c1 ⟨(w3.alloc (.cells (hc T) 34)).heap.size, 0, none⟩ 1 1 (hdA (NS : Int) T).toList rfl ?c2 ?c3 ?c4 ?c5 ?c6 ?c7 ?_)))
        case c1 => exact ((ownsRow_fr Hown.out (Fr.of_below (bth hb2 hb3) (fun _ => False)) (fun _ _ h => h)).alloc _).alloc _
        case c2 => rw [Array.length_toList, hdA_size hT]
        case c3 => exact fun j u hj => row_alloc (w := w3.alloc (.cells (hc T) 34)) j u hj
        case c4 => exact hdA_one
        case c5 => unfold maxLen; omega
        case c6 => omega
        case c7 => have := (bth hb (bth hb2 hb3)).size; simp; omega
        intro v' w8 hown' hgrow hat
        have hB3 := bth hb (bth hb2 hb3)
        have HB8 := hid (((hB3.alloc hB3.size (.cells (hc T) 34)).alloc (by have := hB3.size; simp; omega) _).grown hgrow (by have := hB3.size; simp; omega) (fun q hq => (Hown.out.lt q hq).1))
        have HownN := hid (show w8.ownsRow w.heap.size 36 33 v' (k + 1) (hdF (out ++ [⟨(NS : Int), T⟩])) by rw [hdF_snoc]; exact hown')
        clear hown' hgrow hat hB3
        go_wp2
        go_roundw
        case rel =>
          refine ⟨k + 1, U, out ++ [⟨(NS : Int), T⟩], by simp, by omega, rfl, by have := HUle.out; have := HRdle.out; have := HS.out; omega, by rw [List.length_append, Hol.out]; rfl, ?_, ?_, HownN.out, HB8.out⟩
          · rw [← Hval.out]; exact Hnext.out
          · intro h hh
            rw [List.mem_append, List.mem_singleton] at hh
            rcases hh with hh | rfl
            · exact Hok.out h hh
            · exact hT
        case measure => simp [intOf]; omega
    · have hke : k = N := by omega
      subst hke
      have hp := Hp.out
      rw [Nat.sub_self, hdsP, Option.map_some, List.append_nil] at hp
      simp only at hp
      have hol := Hol.out
      have hown := Hown.out
      rw [← hol] at hown
      have HX := hid (HdsAt.of_owns hown Hok.out)
      clear hown
      by_cases hS0 : S = []
      · subst hS0
        have Hf := hid (show getKL l = some out by rw [HG.out, hp])
        clear hp
        rw [← hol] at *
        go_wp2
        go_ret2
        exact ⟨fun h => (by rw [Hf.out] at h; cases h), fun hs h => (by rw [Hf.out] at h; injection h with h; subst h; exact ⟨_, rfl, HX.out⟩), hb⟩
      · have hq : (S == []) = false := by simpa using hS0
        have Hf := hid (show getKL l = none by
          rw [HG.out, hp]
          cases S with
          | nil => exact absurd rfl hS0
          | cons x r => rfl)
        clear hp hol hS0
        go_wp2
        go_ret2
        exact GK.mk_no Hf.out rfl hb
end Go.Proofs.Ytjpnlnbpaecciaa
