/- the document's Get of signed heads -/
import Derived.Test.YtjpnlnbpaecciaaQGGetLaw
import Derived.Test.YtjpnlnbpaecciaaQGRPut
import Derived.Test.YtjpnlnbpaecciaaQRSGet

set_option maxRecDepth 100000
namespace Go.Proofs.Ytjpnlnbpaecciaa
open Go.RowKit Go.Spec
/-- what stands there, whatever it is -/
def dflt : SgK := (0, zero32, 0, [], [])
def sgW (l : List UInt8) : SgK := (getS (cuT l)).getD dflt
def lenG : Nat → List UInt8 → List SgK
  | 0, _ => []
  | n + 1, l => sgW l :: lenG n (cuR l)
def refGK (l : List UInt8) : List SgK := lenG (min 3 (rdN (l.drop 1))) (rdR (l.drop 1))
theorem sgW_32 (l : List UInt8) : K32 (sgW l) := by
  unfold sgW
  cases h : getS (cuT l) with
  | none => exact ⟨rfl, fun x hx => by simp [dflt] at hx⟩
  | some k =>
    obtain ⟨z, i, _, _, _, h1, h2⟩ := getS_back _ _ h
    exact ⟨h1, h2⟩
theorem lenG_32 : ∀ n l, ∀ k ∈ lenG n l, K32 k
  | 0, _, k, hk => by simp [lenG] at hk
  | n + 1, l, k, hk => by
    rw [lenG] at hk
    rcases List.mem_cons.1 hk with rfl | hk
    · exact sgW_32 _
    · exact lenG_32 n _ k hk
theorem lenG_of : ∀ (n : Nat) (l : List UInt8) (ks : List SgK) (r : List UInt8), sgsP n l = some (ks, r) → lenG n l = ks
  | 0, l, ks, r, h => by simp [sgsP] at h; rw [h.1]; rfl
  | n + 1, l, ks, r, h => by
    rw [sgsP] at h
    cases hs : sgV l with
    | none => rw [hs] at h; cases h
    | some k =>
      rw [hs] at h
      cases hq : sgsP n (cuR l) with
      | none => simp only [hq] at h; cases h
      | some x =>
        simp only [hq, Option.map_some, Option.some.injEq, Prod.mk.injEq] at h
        obtain ⟨rfl, rfl⟩ := h
        rw [lenG, lenG_of n _ x.1 x.2 hq]
        have : sgW l = k := by
          unfold sgV at hs
          split at hs
          · unfold sgW; rw [hs]; rfl
          · cases hs
        rw [this]
theorem refG_yes (l : List UInt8) (ks : List SgK) (h : getGL l = some ks) : refGK l = ks ∧ putGK ks = some l ∧ l ≠ [] := by
  have hb := getGL_back l ks h
  refine ⟨?_, hb.1, ?_⟩
  · unfold getGL at h
    split at h
    · cases h
    · rename_i hc
      simp only [not_or, Bool.not_eq_false] at hc
      split at h
      · rename_i x ks' hp
        injection h with h
        subst h
        have hb : ∃ r, behind l 71 = some r := by
          cases hb : behind l 71 with
          | none => rw [countB, hb] at hc; cases hc.1
          | some r => exact ⟨r, rfl⟩
        obtain ⟨r, hb⟩ := hb
        have e2 : countN l 71 = rdN r := by rw [countN, hb]
        have e3 : countR l 71 = rdR r := by rw [countR, hb]
        rw [e2, e3] at hp
        rw [e2] at hc
        rw [refGK, behind_some hb, List.drop_succ_cons, List.drop_zero, Nat.min_eq_right (by omega)]
        exact lenG_of _ _ _ _ hp
      · cases h
  · rintro rfl
    rw [getGL, countB] at h
    simp [behind] at h
theorem refG_no (l : List UInt8) (h : getGL l = none) : putGK (refGK l) ≠ some l := by
  intro hp
  rw [getGL_put _ _ (lenG_32 _ _) hp] at h
  cases h
theorem lenG_step {m k : Nat} {l s : List UInt8} {out : List SgK} (h : lenG m l = out ++ lenG (m - k) s) (hk : k < m) : lenG m l = (out ++ [sgW s]) ++ lenG (m - (k + 1)) (cuR s) := by
  obtain ⟨d, hd⟩ : ∃ d, m - k = d + 1 := ⟨m - k - 1, by omega⟩
  rw [h, hd, lenG, show m - (k + 1) = d by omega]
  simp
set_option maxHeartbeats 4000000 in
theorem rgget_any (l : List UInt8) (w : World) (hl : l.length ≤ 1000000000) :
    Calls Try.prog 32 #[sv l] w fun e w' => GG l e w w' := by
  obtain ⟨i0, hi, hz0, hz1, hz2⟩ := info_parts Try.infoSigned
  cases l with
  | nil =>
    have Hf := hid (show getGL [] = none by rfl)
    go_enter Try.func32, Try.ntmps32
    go_wp2
    go_ret2
    exact GG.mk_no Hf.out rfl (Below.refl _ _)
  | cons x l =>
  simp only [List.length_cons] at hl
  have CT := hid (fun w0 => rread_gen l w0 (by omega))
  have HRle := hid (rdR_le l)
  have Hl := hid hl
  have HL := hid (show refGK (x :: l) = lenG (min 3 (rdN l)) (rdR l) from rfl)
  have HNlt := rdN_lt l
  generalize rdN l = N at *
  generalize rdR l = R at *
  obtain ⟨M, hM⟩ : ∃ M, min 3 N = M := ⟨_, rfl⟩
  rw [hM] at HL
  have hM1 : M ≤ 3 := by omega
  go_enter Try.func32, Try.ntmps32
  go_upto_region 6 with (go_at_call 73; refine (CT.out _).mono ?_; rintro e w1 ⟨rfl, hb1⟩)
  have HM := hid hM
  clear hM
  go_loopw [7, 5, 8] (fun o s i wr => ∃ (k : Nat) (S : List UInt8) (out : List Sg), i = .int .i64 k ∧ k ≤ M ∧ s = sv S ∧ S.length ≤ R.length ∧ out.length = k ∧ lenG M R = out.map Sg.k ++ lenG (M - k) S ∧ (∀ d ∈ out, d.In wr ∧ Apart o d) ∧ wr.ownsRow w.heap.size 41 36 o k (sgF out) ∧ Below w.heap.size w wr)
    (fun _ _ i _ => M - (intOf i).toNat)
  case atStart => exact ⟨0, R, [], rfl, by omega, rfl, by omega, rfl, by simp, fun _ h => by simp at h, World.ownsRow_nil _ _ _ _, hb1⟩
  case round =>
    obtain ⟨k, S, out, rfl, hk, rfl, hS, hol, hp, hok, hown, hb⟩ := hrel
    obtain ⟨oa, ocap, rfl, hoc⟩ := ownsRow_form hown
    have Hown := hid hown; have Hp := hid hp; have Hok := hid hok; have Hol := hid hol; have HS := hid hS
    clear hown hp hok hol hS
    have hSl : S.length ≤ 1000000000 := by have := HS.out; have := HRle.out; have := Hl.out; omega
    by_cases hlt : k < M
    · have d1 : decide ((k : Int) < 3) = true := decide_eq_true (by omega)
      have d2 : decide (k < N) = true := decide_eq_true (by have := HM.out; omega)
      have hkN : k < N := by have := HM.out; omega
      have C1 := hid (fun w0 => rcut_gen S w0 (by omega))
      have C2 := hid (fun w0 => rsget_any (cuT S) w0 (by have := cuT_le S; omega))
      have Hnext := hid (lenG_step Hp.out hlt)
      have HUle := hid (cuR_le S)
      have Hdef := hid (show sgW S = (getS (cuT S)).getD dflt from rfl)
      generalize cuB S = CB at *
      generalize cuT S = T at *
      generalize cuR S = U at *
      have HSl := hid hSl; clear hSl
      have C2' := hid (fun w0 => (C2.out w0).mono (R' := fun e w' => ∃ (d : Sg) (er : Int), d.k = (getS T).getD dflt ∧ e = .returned (.tuple #[.agg (sgA d.z d.root d.i d.sig d.p), .int .i64 er]) ∧ d.In w' ∧ Fresh w0 d ∧ Below w0.heap.size w0 w') (fun e w' h => by
        obtain ⟨hno, hyes, hb⟩ := h
        cases hg : getS T with
        | none => exact ⟨⟨0, zero32, 0, [], [], none, 0⟩, 10, rfl, hno hg, ⟨rfl, SlAt.nil _, by simp, by simp⟩, fun ad h => (by cases h), hb⟩
        | some k =>
          obtain ⟨d, h1, h2, h3, h4⟩ := hyes k hg
          exact ⟨d, 0, h1, h2, h3, h4, hb⟩))
      clear C2
      go_upto_region 10 with (first
        | (go_at_call 74; refine (C1.out _).mono ?_; rintro e w2 ⟨rfl, hb2⟩)
        | (go_at_call 75; refine (C2'.out _).mono ?_; rintro e w3 ⟨d, er, hdk, rfl, hdin, hfr, hb3⟩; have hr := hdin.r32; have HszS := hid (show (Try.prog.info? 41).map (·.size) = some (sgA d.z d.root d.i d.sig d.p).size by rw [sgA_size hr]; exact Try.sizeSigned); have Hs36 := hid (sgA_size (z := d.z) (i := d.i) (sig := d.sig) (p := d.p) hr))
        | ((with_reducible show wpList _ _ _ ({ dst := _, op := Op.store _ _ _, type := _, pos := _, after := _, guard := _ } :: _) _ _); refine wpList_store_newA rfl 41 _ _ rfl rfl (sgA d.z d.root d.i d.sig d.p) rfl _ 41 (by rw [Hs36.out]; rfl) HszS.out (sgA_one rfl) ?_))
      have hW3 := bth hb (bth hb2 hb3)
      have hb23 := bth hb2 hb3
      have hs23 := hb2.size
      refine wp_world (fun w' => Blk w' w3.heap.size (sgA d.z d.root d.i d.sig d.p) 41 ∧ Below w3.heap.size w3 w') ⟨Blk.new _ _ _, (Below.refl _ _).alloc (Nat.le_refl _) _⟩ ?_
      rintro w4 ⟨hB4, hb4⟩
      have HB4 := hid hB4
      have HW4 := hid (bth hW3 hb4)
      have hw4 : w.heap.size ≤ w4.heap.size := HW4.out.size
      have Hown4 := hid (ownsRow_fr Hown.out (Fr.of_below (bth hb23 hb4) (fun _ => False)) (fun _ _ h => h))
      have hltw := Hown.out.lt
      have Hok4 := hid (fun x (hx : x ∈ out) => (⟨((Hok.out x hx).1.below (bth hb23 hb4)), (Hok.out x hx).2⟩ : x.In w4 ∧ Apart (.slice oa k ocap) x))
      have Hd4 := hid (show d.In w4 ∧ Apart (.slice oa k ocap) d from ⟨hdin.below hb4, fun ad had _ hk => by
        have h1 := (hltw ad.block hk).2
        have h2 := hfr ad had
        omega⟩)
      have Hdk := hid hdk
      clear hltw hdin hfr hdk hb2 hb3 hW3 hb23 hB4 hb4 hs23
      go_wp2_with (first
        | ((with_reducible show wpList _ _ _ ({ dst := _, op := Op.load 41 _, type := _, pos := _, after := _, guard := none } :: _) _ _); refine wpList_load_blk rfl 41 _ rfl w3.heap.size rfl 41 (sgA d.z d.root d.i d.sig d.p) _ HB4.out Try.underlying41 rfl HszS.out ?_)
        | ((with_reducible show wpList _ _ _ ({ dst := _, op := Op.buildSlice 24 _ _, type := _, pos := _, after := _, guard := _ } :: _) _ _); refine wpList_buildSlice_one rfl 24 41 _ rfl 36 (.agg (sgA 0 zero32 0 [] (.slice none 0 0))) (.agg (sgA d.z d.root d.i d.sig d.p)) (sgA d.z d.root d.i d.sig d.p) rfl Try.underlying24 Try.infoSigned2 rfl Hs36.out (by decide) (by decide) ?_)
        | (at_builtin; go_must (refine wpList_app rfl _ _ 24 rfl w.heap.size 41 i0 (.agg (sgA 0 zero32 0 [] (.slice none 0 0))) 36 88 Try.underlying24 hi hz0 hz1 hz2 rfl (by decide) _ k (sgF out) rfl ?c1 ⟨w4.heap.size, 0, none⟩ 1 1 (sgA d.z d.root d.i d.sig d.p).toList rfl ?c2 ?c3 ?c4 ?c5 ?c6 ?c7 ?_)))
      case c1 => exact Hown4.out.alloc _
      case c2 => rw [Array.length_toList, Hs36.out]
      case c3 => exact fun j u hj => row_alloc (w := w4) j u hj
      case c4 => exact sgA_one rfl
      case c5 => unfold maxLen; omega
      case c6 => omega
      case c7 => simp; omega
      intro v' w8 hown' hgrow hat
      have HB8 := hid ((HW4.out.alloc hw4 _).grown hgrow (by simp; omega) (fun q hq => (Hown4.out.lt q hq).1))
      have Hnew := hid (sgs_grow (w := w4) Hok4.out Hd4.out hgrow (v' := v') (fun q hq => by simpa using hat q hq))
      have HownN := hid (show w8.ownsRow w.heap.size 41 36 v' (k + 1) (sgF (out ++ [d])) by rw [sgF_snoc]; exact hown')
      clear hown' hgrow hat
      go_wp2
      go_roundw
      case rel =>
        refine ⟨k + 1, U, out ++ [d], by go_num, by omega, rfl, by have := HUle.out; have := HS.out; omega, by rw [List.length_append, Hol.out]; rfl, ?_, Hnew.out, HownN.out, HB8.out⟩
        rw [List.map_append, show [d].map Sg.k = [sgW S] by rw [Hdef.out, ← Hdk.out]; rfl]
        exact Hnext.out
      case measure => simp [intOf]; omega
    · have hke : k = M := by omega
      subst hke
      have hp := Hp.out
      rw [Nat.sub_self, lenG, List.append_nil] at hp
      rw [hp] at HL
      have hol := Hol.out
      have hown := Hown.out
      rw [← hol] at hown
      have HX := hid (SgsAt.of_owns hown (fun d hd => (Hok.out d hd).1))
      have hob : out.length ≤ 3 := by omega
      have CP := hid (fun w0 (h : SgsAt w0 (.slice oa k ocap) out) => rgput_any _ out w0 h (by omega))
      have Hno := hid (refG_no (x :: l)); have Hyes := hid (refG_yes (x :: l))
      rw [HL.out] at Hno Hyes
      rw [← putGL_k] at Hno
      have Hyes2 := hid (fun ks (h : getGL (x :: l) = some ks) => (show out.map Sg.k = ks ∧ putGL out = some (x :: l) from by obtain ⟨h1, h2, _⟩ := Hyes.out ks h; exact ⟨h1, by rw [putGL_k, h1]; exact h2⟩))
      have HXk := hid (show SgsAt wr (.slice oa k ocap) out by have := HX.out; rwa [hol] at this)
      clear hown hp hol HX
      by_cases hk64 : k < 3
      · have d1 : decide ((k : Int) < 3) = true := decide_eq_true (by omega)
        have d2 : decide (k < N) = false := decide_eq_false (by have := HM.out; omega)
        have hNk : ¬ k < N := by have := HM.out; omega
        go_upto_region 11 with fail
        cases hpk : putGL out with
        | none =>
          rw [hpk] at CP
          have Hf := hid (show getGL (x :: l) = none by
            cases hg : getGL (x :: l) with
            | none => rfl
            | some hs => obtain ⟨e1, e2⟩ := Hyes2.out hs hg; rw [hpk] at e2; cases e2)
          clear hpk
          go_wp2_with (go_at_call 15; refine (CP.out _ HXk.out).mono ?_; rintro e w4 ⟨rfl, hb4⟩; simp only [putR])
          go_ret2
          exact GG.mk_no Hf.out rfl (bth hb hb4)
        | some t =>
          rw [hpk] at CP
          by_cases ht : t = x :: l
          · have Hf := hid (show getGL (x :: l) = some (out.map Sg.k) by
              cases hg : getGL (x :: l) with
              | none => exact absurd (by rw [hpk, ht]) (Hno.out hg)
              | some hs => rw [(Hyes2.out hs hg).1])
            have hq : (t == x :: l) = true := by simpa using ht
            have hq2 : (x :: l == x :: l) = true := by simp
            subst ht
            clear hpk
            go_wp2_with (go_at_call 15; refine (CP.out _ HXk.out).mono ?_; rintro e w4 ⟨rfl, hb4⟩; simp only [putR])
            go_ret2
            exact ⟨fun h => (by rw [Hf.out] at h; cases h), fun hs h => (by rw [Hf.out] at h; injection h with h; exact ⟨_, out, rfl, HXk.out.below hb4, h⟩), bth hb hb4⟩
          · have Hf := hid (show getGL (x :: l) = none by
              cases hg : getGL (x :: l) with
              | none => rfl
              | some hs => obtain ⟨e1, e2⟩ := Hyes2.out hs hg; rw [hpk] at e2; injection e2 with e2; exact absurd e2 ht)
            have hq : (t == x :: l) = false := by simpa using ht
            clear hpk ht
            go_wp2_with (go_at_call 15; refine (CP.out _ HXk.out).mono ?_; rintro e w4 ⟨rfl, hb4⟩; simp only [putR])
            go_ret2
            exact GG.mk_no Hf.out rfl (bth hb hb4)
      · have d1 : decide ((k : Int) < 3) = false := decide_eq_false (by omega)
        go_upto_region 11 with fail
        cases hpk : putGL out with
        | none =>
          rw [hpk] at CP
          have Hf := hid (show getGL (x :: l) = none by
            cases hg : getGL (x :: l) with
            | none => rfl
            | some hs => obtain ⟨e1, e2⟩ := Hyes2.out hs hg; rw [hpk] at e2; cases e2)
          clear hpk
          go_wp2_with (go_at_call 15; refine (CP.out _ HXk.out).mono ?_; rintro e w4 ⟨rfl, hb4⟩; simp only [putR])
          go_ret2
          exact GG.mk_no Hf.out rfl (bth hb hb4)
        | some t =>
          rw [hpk] at CP
          by_cases ht : t = x :: l
          · have Hf := hid (show getGL (x :: l) = some (out.map Sg.k) by
              cases hg : getGL (x :: l) with
              | none => exact absurd (by rw [hpk, ht]) (Hno.out hg)
              | some hs => rw [(Hyes2.out hs hg).1])
            have hq : (t == x :: l) = true := by simpa using ht
            have hq2 : (x :: l == x :: l) = true := by simp
            subst ht
            clear hpk
            go_wp2_with (go_at_call 15; refine (CP.out _ HXk.out).mono ?_; rintro e w4 ⟨rfl, hb4⟩; simp only [putR])
            go_ret2
            exact ⟨fun h => (by rw [Hf.out] at h; cases h), fun hs h => (by rw [Hf.out] at h; injection h with h; exact ⟨_, out, rfl, HXk.out.below hb4, h⟩), bth hb hb4⟩
          · have Hf := hid (show getGL (x :: l) = none by
              cases hg : getGL (x :: l) with
              | none => rfl
              | some hs => obtain ⟨e1, e2⟩ := Hyes2.out hs hg; rw [hpk] at e2; injection e2 with e2; exact absurd e2 ht)
            have hq : (t == x :: l) = false := by simpa using ht
            clear hpk ht
            go_wp2_with (go_at_call 15; refine (CP.out _ HXk.out).mono ?_; rintro e w4 ⟨rfl, hb4⟩; simp only [putR])
            go_ret2
            exact GG.mk_no Hf.out rfl (bth hb hb4)
end Go.Proofs.Ytjpnlnbpaecciaa
