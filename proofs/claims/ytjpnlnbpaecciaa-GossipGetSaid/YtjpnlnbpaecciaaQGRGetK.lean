/- the document's GetKnown -/
import Derived.Test.YtjpnlnbpaecciaaQGGetK
import Derived.Test.YtjpnlnbpaecciaaQGRKnown

set_option maxRecDepth 100000
namespace Go.Proofs.Ytjpnlnbpaecciaa
open Go.RowKit Go.Spec
/-- what stands there, whatever it is -/
def hdW (l : List UInt8) : Hd := ⟨((rdN l % 65536 : Nat) : Int), unT (rdR l)⟩
def lenK : Nat → List UInt8 → List Hd
  | 0, _ => []
  | n + 1, l => hdW l :: lenK n (unR (rdR l))
def refKH (l : List UInt8) : List Hd := lenK (min 64 (rdN (l.drop 1))) (rdR (l.drop 1))
theorem lenK_len : ∀ n l, (lenK n l).length = n
  | 0, _ => rfl
  | n + 1, l => by rw [lenK, List.length_cons, lenK_len]
theorem lenK_32 : ∀ n l, ∀ h ∈ lenK n l, h.r.length = 32
  | 0, _, h, hh => by simp [lenK] at hh
  | n + 1, l, h, hh => by
    rw [lenK] at hh
    rcases List.mem_cons.1 hh with rfl | hh
    · exact unT_len _
    · exact lenK_32 n _ h hh
theorem lenK_of : ∀ (n : Nat) (l : List UInt8) (hs : List Hd) (r : List UInt8), hdsP n l = some (hs, r) → lenK n l = hs
  | 0, l, hs, r, h => by simp [hdsP] at h; rw [h.1]; rfl
  | n + 1, l, hs, r, h => by
    rw [hdsP] at h
    split at h
    · rename_i hb
      cases hq : hdsP n (unR (rdR l)) with
      | none => rw [hq] at h; cases h
      | some x =>
        rw [hq] at h
        simp only [Option.map_some, Option.some.injEq, Prod.mk.injEq] at h
        obtain ⟨rfl, rfl⟩ := h
        rw [lenK, lenK_of n _ x.1 x.2 hq]
        simp only [hdB, Bool.and_eq_true, decide_eq_true_eq] at hb
        rw [hdW, hdV, Nat.mod_eq_of_lt (by omega)]
    · cases h
theorem refK_yes (l : List UInt8) (hs : List Hd) (h : getKL l = some hs) : refKH l = hs ∧ putKL hs = some l ∧ l ≠ [] := by
  have hb := getKL_back l hs h
  refine ⟨?_, hb.1, ?_⟩
  · unfold getKL at h
    split at h
    · cases h
    · rename_i hc
      simp only [not_or, Bool.not_eq_false] at hc
      split at h
      · rename_i x hs' hp
        injection h with h
        subst h
        have hb : ∃ r, behind l 68 = some r := by
          cases hb : behind l 68 with
          | none => rw [countB, hb] at hc; cases hc.1
          | some r => exact ⟨r, rfl⟩
        obtain ⟨r, hb⟩ := hb
        have e2 : countN l 68 = rdN r := by rw [countN, hb]
        have e3 : countR l 68 = rdR r := by rw [countR, hb]
        rw [e2, e3] at hp
        rw [e2] at hc
        rw [refKH, behind_some hb, List.drop_succ_cons, List.drop_zero, Nat.min_eq_right (by omega)]
        exact lenK_of _ _ _ _ hp
      · cases h
  · rintro rfl
    rw [getKL, countB] at h
    simp [behind] at h
theorem refK_no (l : List UInt8) (h : getKL l = none) : putKL (refKH l) ≠ some l := by
  intro hp
  rw [getKL_put _ _ (lenK_32 _ _) hp] at h
  cases h
theorem lenK_step {m k : Nat} {l s : List UInt8} {out : List Hd} (h : lenK m l = out ++ lenK (m - k) s) (hk : k < m) : lenK m l = (out ++ [hdW s]) ++ lenK (m - (k + 1)) (unR (rdR s)) := by
  obtain ⟨d, hd⟩ : ∃ d, m - k = d + 1 := ⟨m - k - 1, by omega⟩
  rw [h, hd, lenK, show m - (k + 1) = d by omega]
  simp
set_option maxHeartbeats 4000000 in
theorem rgkn_any (l : List UInt8) (w : World) (hl : l.length ≤ 1000000000) :
    Calls Try.prog 34 #[sv l] w fun e w' => GK l e w w' := by
  obtain ⟨i0, hi, hz0, hz1, hz2⟩ := info_parts Try.infoHead
  cases l with
  | nil =>
    have Hf := hid (show getKL [] = none by rfl)
    go_enter Try.func34, Try.ntmps34
    go_wp2
    go_ret2
    exact GK.mk_no Hf.out rfl (Below.refl _ _)
  | cons x l =>
  simp only [List.length_cons] at hl
  have CT := hid (fun w0 => rread_gen l w0 (by omega))
  have HRle := hid (rdR_le l)
  have Hl := hid hl
  have HL := hid (show refKH (x :: l) = lenK (min 64 (rdN l)) (rdR l) from rfl)
  have HNlt := rdN_lt l
  generalize rdN l = N at *
  generalize rdR l = R at *
  obtain ⟨M, hM⟩ : ∃ M, min 64 N = M := ⟨_, rfl⟩
  rw [hM] at HL
  have hM1 : M ≤ 64 := by omega
  go_enter Try.func34, Try.ntmps34
  go_upto_region 6 with (go_at_call 73; refine (CT.out _).mono ?_; rintro e w1 ⟨rfl, hb1⟩)
  have HM := hid hM
  clear hM
  go_loopw [7, 5, 8] (fun o s i wr => ∃ (k : Nat) (S : List UInt8) (out : List Hd), i = .int .i64 k ∧ k ≤ M ∧ s = sv S ∧ S.length ≤ R.length ∧ out.length = k ∧ lenK M R = out ++ lenK (M - k) S ∧ (∀ h ∈ out, h.r.length = 32) ∧ wr.ownsRow w.heap.size 36 33 o k (hdF out) ∧ Below w.heap.size w wr)
    (fun _ _ i _ => M - (intOf i).toNat)
  case atStart => exact ⟨0, R, [], rfl, by omega, rfl, by omega, rfl, by simp, fun _ h => by simp at h, World.ownsRow_nil _ _ _ _, hb1⟩
  case round =>
    obtain ⟨k, S, out, rfl, hk, rfl, hS, hol, hp, hok, hown, hb⟩ := hrel
    obtain ⟨oa, ocap, rfl, hoc⟩ := ownsRow_form hown
    have Hown := hid hown; have Hp := hid hp; have Hok := hid hok; have Hol := hid hol; have HS := hid hS
    clear hown hp hok hol hS
    have hSl : S.length ≤ 9223372036854775807 := by have := HS.out; have := HRle.out; have := Hl.out; omega
    have hRl : (rdR S).length ≤ 9223372036854775807 := by have := rdR_le S; omega
    by_cases hlt : k < M
    · have d1 : decide ((k : Int) < 64) = true := decide_eq_true (by omega)
      have d2 : decide (k < N) = true := decide_eq_true (by have := HM.out; omega)
      have hkN : k < N := by have := HM.out; omega
      have C1 := hid (fun w0 => rread_gen S w0 hSl)
      have C2 := hid (fun w0 => runhash_gen (rdR S) w0 hRl)
      have hnl := rdN_lt S
      have Hnext := hid (lenK_step Hp.out hlt)
      have hT := unT_len (rdR S)
      have HUle := hid (unR_le (rdR S)); have HRdle := hid (rdR_le S)
      have Hval := hid (show hdW S = ⟨((rdN S % 65536 : Nat) : Int), unT (rdR S)⟩ from rfl)
      generalize hT' : unT (rdR S) = T at *
      have Hsz := hid (show (Try.prog.info? 34).map (·.size) = some T.length by rw [hT]; exact Try.sizeHash)
      generalize hNS : rdN S = NS at *
      clear hNS hT'
      generalize unR (rdR S) = U at *
      generalize rdR S = RS at *
      obtain ⟨NW, hNW⟩ : ∃ NW, NS % 65536 = NW := ⟨_, rfl⟩
      have hi1 : (NS : Int) % 65536 = (NW : Int) := by omega
      have hNWl : NW < 65536 := by omega
      have hi2 : (NS : Int).tmod 65536 = (NW : Int) := by rw [Int.tmod_eq_emod_of_nonneg (by omega)]; exact hi1
      rw [hNW] at Hval
      have Hnl := hid hnl; have HNW := hid hNW
      clear hnl hSl hRl hNW
      go_wp2_with (first
        | (go_at_call 73; refine (C1.out _).mono ?_; rintro e w2 ⟨rfl, hb2⟩)
        | (go_at_call 78; refine (C2.out _).mono ?_; rintro e w3 ⟨rfl, hb3⟩)
        | ((with_reducible show wpList _ _ _ ({ dst := _, op := Op.store _ _ _, type := _, pos := _, after := _, guard := _ } :: _) _ _); refine wpList_store_new rfl 34 _ _ rfl rfl T rfl _ 34 (by rw [hT]; rfl) Hsz.out ?_)
        | ((with_reducible show wpList _ _ _ ({ dst := _, op := Op.load 34 _, type := _, pos := _, after := _, guard := none } :: _) _ _); refine wpList_load_new rfl 34 _ rfl rfl T 34 _ Try.underlying34 rfl Hsz.out ?_)
        | ((with_reducible show wpList _ _ _ ({ dst := _, op := Op.build 36 _, type := _, pos := _, after := _, guard := _ } :: _) _ _); refine wpList_buildP rfl 36 _ rfl (.agg (hdA (NW : Int) T)) (fun w => buildHead (NW : Int) T hT w) ?_)
        | (refine wpList_buildSlice_one rfl 23 36 _ rfl 33 (.agg (hdA 0 zero32)) (.agg (hdA (NW : Int) T)) (hdA (NW : Int) T) rfl Try.underlying23 Try.infoHead2 rfl (hdA_size hT) (by decide) (by decide) ?_)
        | (at_builtin; go_must (refine wpList_app rfl _ _ 23 rfl w.heap.size 36 i0 (.agg (hdA 0 zero32)) 33 40 Try.underlying23 hi hz0 hz1 hz2 rfl (by decide) _ k (hdF out) rfl ?c1 ⟨(w3.alloc (.cells (hc T) 34)).heap.size, 0, none⟩ 1 1 (hdA (NW : Int) T).toList rfl ?c2 ?c3 ?c4 ?c5 ?c6 ?c7 ?_)))
      case c1 => exact ((ownsRow_fr Hown.out (Fr.of_below (bth hb2 hb3) (fun _ => False)) (fun _ _ h => h)).alloc _).alloc _
      case c2 => rw [Array.length_toList, hdA_size hT]
      case c3 => exact fun j u hj => row_alloc (w := w3.alloc (.cells (hc T) 34)) j u hj
      case c4 => exact hdA_one
      case c5 => unfold maxLen; omega
      case c6 => omega
      case c7 => have := (bth hb (bth hb2 hb3)).size; simp; omega
      intro v' w8 hown' hgrow hat
      have hB3 := bth hb (bth hb2 hb3)
      have HB8 := hid (((hB3.alloc hB3.size (.cells (hc T) 34)).alloc (by have := hB3.size; simp; omega) _).grown hgrow (by have := hB3.size; simp; omega) (fun q hq => (Hown.out.lt q hq).1))
      have HownN := hid (show w8.ownsRow w.heap.size 36 33 v' (k + 1) (hdF (out ++ [⟨(NW : Int), T⟩])) by rw [hdF_snoc]; exact hown')
      clear hown' hgrow hat hB3
      go_wp2
      go_roundw
      case rel =>
        refine ⟨k + 1, U, out ++ [⟨(NW : Int), T⟩], by go_num, by omega, rfl, by have := HUle.out; have := HRdle.out; have := HS.out; omega, by rw [List.length_append, Hol.out]; rfl, ?_, ?_, HownN.out, HB8.out⟩
        · rw [← Hval.out]; exact Hnext.out
        · intro h hh
          rw [List.mem_append, List.mem_singleton] at hh
          rcases hh with hh | rfl
          · exact Hok.out h hh
          · exact hT
      case measure => simp [intOf]; omega
    · have hke : k = M := by omega
      subst hke
      have hp := Hp.out
      rw [Nat.sub_self, lenK, List.append_nil] at hp
      rw [hp] at HL
      have hol := Hol.out
      have hown := Hown.out
      rw [← hol] at hown
      have HX := hid (HdsAt.of_owns hown Hok.out)
      have hob : out.length ≤ 64 := by omega
      have CP := hid (fun w0 (h : HdsAt w0 (.slice oa k ocap) out) => rgputk_any _ out w0 h (by omega))
      have Hno := hid (refK_no (x :: l)); have Hyes := hid (refK_yes (x :: l))
      rw [HL.out] at Hno Hyes
      have HXk := hid (show HdsAt wr (.slice oa k ocap) out by have := HX.out; rwa [hol] at this)
      clear hown hp hol HX
      by_cases hk64 : k < 64
      · have d1 : decide ((k : Int) < 64) = true := decide_eq_true (by omega)
        have d2 : decide (k < N) = false := decide_eq_false (by have := HM.out; omega)
        have hNk : ¬ k < N := by have := HM.out; omega
        go_upto_region 11 with fail
        cases hpk : putKL out with
        | none =>
          rw [hpk] at CP
          have Hf := hid (show getKL (x :: l) = none by
            cases hg : getKL (x :: l) with
            | none => rfl
            | some hs => obtain ⟨e1, e2, _⟩ := Hyes.out hs hg; rw [← e1, hpk] at e2; cases e2)
          clear hpk
          go_wp2_with (go_at_call 17; refine (CP.out _ HXk.out).mono ?_; rintro e w4 ⟨rfl, hb4⟩; simp only [putR])
          go_ret2
          exact GK.mk_no Hf.out rfl (bth hb hb4)
        | some t =>
          rw [hpk] at CP
          by_cases ht : t = x :: l
          · have Hf := hid (show getKL (x :: l) = some out by
              cases hg : getKL (x :: l) with
              | none => exact absurd (by rw [hpk, ht]) (Hno.out hg)
              | some hs => rw [(Hyes.out hs hg).1])
            have hq : (t == x :: l) = true := by simpa using ht
            have hq2 : (x :: l == x :: l) = true := by simp
            subst ht
            clear hpk
            go_wp2_with (go_at_call 17; refine (CP.out _ HXk.out).mono ?_; rintro e w4 ⟨rfl, hb4⟩; simp only [putR])
            go_ret2
            exact ⟨fun h => (by rw [Hf.out] at h; cases h), fun hs h => (by rw [Hf.out] at h; injection h with h; subst h; exact ⟨_, rfl, HXk.out.below hb4⟩), bth hb hb4⟩
          · have Hf := hid (show getKL (x :: l) = none by
              cases hg : getKL (x :: l) with
              | none => rfl
              | some hs => obtain ⟨e1, e2, _⟩ := Hyes.out hs hg; rw [← e1, hpk] at e2; injection e2 with e2; exact absurd e2 ht)
            have hq : (t == x :: l) = false := by simpa using ht
            clear hpk ht
            go_wp2_with (go_at_call 17; refine (CP.out _ HXk.out).mono ?_; rintro e w4 ⟨rfl, hb4⟩; simp only [putR])
            go_ret2
            exact GK.mk_no Hf.out rfl (bth hb hb4)
      · have d1 : decide ((k : Int) < 64) = false := decide_eq_false (by omega)
        go_upto_region 11 with fail
        cases hpk : putKL out with
        | none =>
          rw [hpk] at CP
          have Hf := hid (show getKL (x :: l) = none by
            cases hg : getKL (x :: l) with
            | none => rfl
            | some hs => obtain ⟨e1, e2, _⟩ := Hyes.out hs hg; rw [← e1, hpk] at e2; cases e2)
          clear hpk
          go_wp2_with (go_at_call 17; refine (CP.out _ HXk.out).mono ?_; rintro e w4 ⟨rfl, hb4⟩; simp only [putR])
          go_ret2
          exact GK.mk_no Hf.out rfl (bth hb hb4)
        | some t =>
          rw [hpk] at CP
          by_cases ht : t = x :: l
          · have Hf := hid (show getKL (x :: l) = some out by
              cases hg : getKL (x :: l) with
              | none => exact absurd (by rw [hpk, ht]) (Hno.out hg)
              | some hs => rw [(Hyes.out hs hg).1])
            have hq : (t == x :: l) = true := by simpa using ht
            have hq2 : (x :: l == x :: l) = true := by simp
            subst ht
            clear hpk
            go_wp2_with (go_at_call 17; refine (CP.out _ HXk.out).mono ?_; rintro e w4 ⟨rfl, hb4⟩; simp only [putR])
            go_ret2
            exact ⟨fun h => (by rw [Hf.out] at h; cases h), fun hs h => (by rw [Hf.out] at h; injection h with h; subst h; exact ⟨_, rfl, HXk.out.below hb4⟩), bth hb hb4⟩
          · have Hf := hid (show getKL (x :: l) = none by
              cases hg : getKL (x :: l) with
              | none => rfl
              | some hs => obtain ⟨e1, e2, _⟩ := Hyes.out hs hg; rw [← e1, hpk] at e2; injection e2 with e2; exact absurd e2 ht)
            have hq : (t == x :: l) = false := by simpa using ht
            clear hpk ht
            go_wp2_with (go_at_call 17; refine (CP.out _ HXk.out).mono ?_; rintro e w4 ⟨rfl, hb4⟩; simp only [putR])
            go_ret2
            exact GK.mk_no Hf.out rfl (bth hb hb4)
end Go.Proofs.Ytjpnlnbpaecciaa
