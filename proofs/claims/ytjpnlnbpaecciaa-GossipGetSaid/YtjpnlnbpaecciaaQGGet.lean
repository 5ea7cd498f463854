/- gossip.Get -/
import Derived.Test.YtjpnlnbpaecciaaQGPut
import Derived.Test.YtjpnlnbpaecciaaQSGet

set_option maxRecDepth 100000
namespace Go.Proofs.Ytjpnlnbpaecciaa
open Go.RowKit Go.Spec
/-- one signed head, with its length ahead -/
def sgV (l : List UInt8) : Option SgK := if cuB l then getS (cuT l) else none
def sgsP : Nat → List UInt8 → Option (List SgK × List UInt8)
  | 0, l => some ([], l)
  | n + 1, l => match sgV l with
    | some k => (sgsP n (cuR l)).map (fun x => (k :: x.1, x.2))
    | none => none
def getGL (l : List UInt8) : Option (List SgK) :=
  if countB l 71 = false ∨ countN l 71 < 1 ∨ 3 < countN l 71 then none else
    match sgsP (countN l 71) (countR l 71) with
    | some (ks, []) => some ks
    | _ => none
theorem sgsP_step {n k : Nat} {l s : List UInt8} {out : List SgK} {d : SgK} (h : sgsP n l = (sgsP (n - k) s).map (fun x => (out ++ x.1, x.2))) (hk : k < n) (hb : sgV s = some d) :
    sgsP n l = (sgsP (n - (k + 1)) (cuR s)).map (fun x => ((out ++ [d]) ++ x.1, x.2)) := by
  obtain ⟨m, hm⟩ : ∃ m, n - k = m + 1 := ⟨n - k - 1, by omega⟩
  rw [h, hm, sgsP, hb, show n - (k + 1) = m by omega]
  cases sgsP m (cuR s) <;> simp
theorem sgsP_stop {n k : Nat} {l s : List UInt8} {out : List SgK} (h : sgsP n l = (sgsP (n - k) s).map (fun x => (out ++ x.1, x.2))) (hk : k < n) (hb : sgV s = none) : sgsP n l = none := by
  obtain ⟨m, hm⟩ : ∃ m, n - k = m + 1 := ⟨n - k - 1, by omega⟩
  rw [h, hm, sgsP, hb]; rfl
/-- what Get answers -/
structure GG (l : List UInt8) (e : Ending) (w w' : World) : Prop where
  no : getGL l = none → e = .returned (.tuple #[.slice none 0 0, .int .i64 10])
  yes : ∀ ks, getGL l = some ks → ∃ v ds, e = .returned (.tuple #[v, .int .i64 0]) ∧ SgsAt w' v ds ∧ ds.map Sg.k = ks
  below : Below w.heap.size w w'
theorem GG.mk_no {l : List UInt8} {e : Ending} {w w' : World} (h : getGL l = none) (he : e = .returned (.tuple #[.slice none 0 0, .int .i64 10])) (hb : Below w.heap.size w w') : GG l e w w' :=
  ⟨fun _ => he, fun hs h' => (by rw [h] at h'; cases h'), hb⟩
set_option maxHeartbeats 4000000 in
theorem gget_any (l : List UInt8) (w : World) (hl : l.length ≤ 1000000000) :
    Calls Try.prog 31 #[sv l] w fun e w' => GG l e w w' := by
  obtain ⟨i0, hi, hz0, hz1, hz2⟩ := info_parts Try.infoSigned
  have CT := hid (fun w0 => count_any l 71 w0 hl)
  have HRle := hid (countR_le l 71)
  have Hl := hid hl
  have hG := hid (show getGL l = if countB l 71 = false ∨ countN l 71 < 1 ∨ 3 < countN l 71 then none else
    match sgsP (countN l 71) (countR l 71) with
    | some (hs, []) => some hs
    | _ => none from rfl)
  have HNlt := countN_lt l 71
  generalize countN l 71 = N at *
  generalize countR l 71 = R at *
  cases hB : countB l 71 with
  | false =>
    rw [hB] at CT
    have Hf := hid (show getGL l = none by rw [hG.out, hB]; simp)
    clear hB
    go_enter Try.func31, Try.ntmps31
    go_wp2_with (go_at_call 70; refine (CT.out _).mono ?_; rintro e w1 ⟨rfl, hb1⟩)
    go_ret2
    exact GG.mk_no Hf.out rfl hb1
  | true =>
  rw [hB] at CT
  by_cases h1 : N < 1
  · have Hf := hid (show getGL l = none by rw [hG.out]; simp [h1])
    obtain rfl : N = 0 := by omega
    clear hB h1
    go_enter Try.func31, Try.ntmps31
    go_wp2_with (go_at_call 70; refine (CT.out _).mono ?_; rintro e w1 ⟨rfl, hb1⟩)
    go_ret2
    exact GG.mk_no Hf.out rfl hb1
  have d1 : decide ((N : Int) < 1) = false := decide_eq_false (by omega)
  by_cases h64 : 3 < N
  · have Hf := hid (show getGL l = none by rw [hG.out]; simp [h64])
    have hd : decide ((3 : Int) < (N : Int)) = true := decide_eq_true (by omega)
    clear hB
    go_enter Try.func31, Try.ntmps31
    go_wp2_with (go_at_call 70; refine (CT.out _).mono ?_; rintro e w1 ⟨rfl, hb1⟩)
    go_ret2
    exact GG.mk_no Hf.out rfl hb1
  have hN : N ≤ 3 := by omega
  have hd : decide ((3 : Int) < (N : Int)) = false := decide_eq_false (by omega)
  have HG := hid (show getGL l = match sgsP N R with | some (hs, []) => some hs | _ => none by rw [hG.out, hB, if_neg (by simp; omega)])
  clear hB h64 hG h1
  go_enter Try.func31, Try.ntmps31
  go_upto_region 6 with (go_at_call 70; refine (CT.out _).mono ?_; rintro e w1 ⟨rfl, hb1⟩)
  go_loopw [7, 5, 30] (fun o s i wr => ∃ (k : Nat) (S : List UInt8) (out : List Sg), i = .int .u64 k ∧ k ≤ N ∧ s = sv S ∧ S.length ≤ R.length ∧ out.length = k ∧ sgsP N R = (sgsP (N - k) S).map (fun x => (out.map Sg.k ++ x.1, x.2)) ∧ (∀ d ∈ out, d.In wr ∧ Apart o d) ∧ wr.ownsRow w.heap.size 41 36 o k (sgF out) ∧ Below w.heap.size w wr)
    (fun _ _ i _ => N - (intOf i).toNat)
  case atStart => exact ⟨0, R, [], rfl, by omega, rfl, by omega, rfl, by simp, fun _ h => by simp at h, World.ownsRow_nil _ _ _ _, hb1⟩
  case round =>
    obtain ⟨k, S, out, rfl, hk, rfl, hS, hol, hp, hok, hown, hb⟩ := hrel
    obtain ⟨oa, ocap, rfl, hoc⟩ := ownsRow_form hown
    have Hown := hid hown; have Hp := hid hp; have Hok := hid hok; have Hol := hid hol; have HS := hid hS
    clear hown hp hok hol hS
    have hSl : S.length ≤ 1000000000 := by have := HS.out; have := HRle.out; have := Hl.out; omega
    by_cases hlt : k < N
    · have C1 := hid (fun w0 => cut_gen S w0 (by omega))
      have C2 := hid (fun w0 => sget_any (cuT S) w0 (by have := cuT_le S; omega))
      have Hst := hid (fun h : sgV S = none => sgsP_stop Hp.out hlt h)
      have Hsp := hid (fun d (h : sgV S = some d) => sgsP_step Hp.out hlt h)
      have HUle := hid (cuR_le S)
      have Hdef := hid (show sgV S = if cuB S then getS (cuT S) else none from rfl)
      generalize cuB S = CB at *
      generalize cuT S = T at *
      generalize cuR S = U at *
      have HSl := hid hSl; clear hSl
      have hkN : (k : Int) < (N : Int) := by omega
      cases hs : getS T with
      | none =>
        have Hs := hid hs
        have Hf := hid (show getGL l = none by rw [HG.out, Hst.out (by rw [Hdef.out, hs]; simp)])
        have Hz : Hid ((Try.prog.info? 41).map (·.size) = some (sgA 0 zero32 0 [] (.slice none 0 0)).size) := hid (by rw [sgA_size rfl]; exact Try.sizeSigned)
        clear hs
        cases CB
        all_goals
          go_wp2_with (first
            | (go_at_call 71; refine (C1.out _).mono ?_; rintro e w2 ⟨rfl, hb2⟩)
            | (go_at_call 72; refine (C2.out _).mono ?_; rintro e w3 ⟨hno, hyes, hb3⟩; obtain rfl := hno Hs.out; clear hno hyes)
            | ((with_reducible show wpList _ _ _ ({ dst := _, op := Op.store _ _ _, type := _, pos := _, after := _, guard := _ } :: _) _ _); refine wpList_store_newA rfl 41 _ _ rfl rfl (sgA 0 zero32 0 [] (.slice none 0 0)) rfl _ 41 rfl Hz.out (sgA_one rfl) ?_))
          go_ret2
          exact GG.mk_no Hf.out rfl ((bth hb (bth hb2 hb3)).alloc (bth hb (bth hb2 hb3)).size _)
      | some dk =>
        have Hs := hid hs
        have hst : CB = false → getGL l = none := fun h => by rw [HG.out, Hst.out (by rw [Hdef.out, h]; rfl)]
        have hsp : CB = true → _ := fun h => Hsp.out dk (by rw [Hdef.out, h, hs]; rfl)
        have Hst2 := hid hst; have Hsp2 := hid hsp
        clear hs hst hsp
        cases CB with
        | false =>
          have Hf := hid (Hst2.out rfl)
          go_wp2_with (first
            | (go_at_call 71; refine (C1.out _).mono ?_; rintro e w2 ⟨rfl, hb2⟩)
            | (go_at_call 72; refine (C2.out _).mono ?_; rintro e w3 ⟨hno, hyes, hb3⟩; obtain ⟨d, hdk, rfl, hdin, hfr⟩ := hyes dk Hs.out; clear hno hyes; have hr := hdin.r32; have HszS := hid (show (Try.prog.info? 41).map (·.size) = some (sgA d.z d.root d.i d.sig d.p).size by rw [sgA_size hr]; exact Try.sizeSigned); have Hs36 := hid (sgA_size (z := d.z) (i := d.i) (sig := d.sig) (p := d.p) hr))
            | ((with_reducible show wpList _ _ _ ({ dst := _, op := Op.store _ _ _, type := _, pos := _, after := _, guard := _ } :: _) _ _); refine wpList_store_newA rfl 41 _ _ rfl rfl (sgA d.z d.root d.i d.sig d.p) rfl _ 41 (by rw [Hs36.out]; rfl) HszS.out (sgA_one rfl) ?_))
          go_ret2
          exact GG.mk_no Hf.out rfl ((bth hb (bth hb2 hb3)).alloc (bth hb (bth hb2 hb3)).size _)
        | true =>
          have Hnext := hid (Hsp2.out rfl)
          go_upto_region 11 with (first
            | (go_at_call 71; refine (C1.out _).mono ?_; rintro e w2 ⟨rfl, hb2⟩)
            | (go_at_call 72; refine (C2.out _).mono ?_; rintro e w3 ⟨hno, hyes, hb3⟩; obtain ⟨d, hdk, rfl, hdin, hfr⟩ := hyes dk Hs.out; clear hno hyes; have hr := hdin.r32; have HszS := hid (show (Try.prog.info? 41).map (·.size) = some (sgA d.z d.root d.i d.sig d.p).size by rw [sgA_size hr]; exact Try.sizeSigned); have Hs36 := hid (sgA_size (z := d.z) (i := d.i) (sig := d.sig) (p := d.p) hr))
            | ((with_reducible show wpList _ _ _ ({ dst := _, op := Op.store _ _ _, type := _, pos := _, after := _, guard := _ } :: _) _ _); refine wpList_store_newA rfl 41 _ _ rfl rfl (sgA d.z d.root d.i d.sig d.p) rfl _ 41 (by rw [Hs36.out]; rfl) HszS.out (sgA_one rfl) ?_))
          have hW3 := bth hb (bth hb2 hb3)
          have hb23 := bth hb2 hb3
          have hs23 := hb2.size
          refine wp_world (fun w' => Blk w' w3.heap.size (sgA d.z d.root d.i d.sig d.p) 41 ∧ Below w3.heap.size w3 w') ⟨Blk.new _ _ _, (Below.refl _ _).alloc (Nat.le_refl _) _⟩ ?_
          rintro w4 ⟨hB4, hb4⟩
          have HB4 := hid hB4
          have HW4 := hid (bth hW3 hb4)
          have hw4 : w.heap.size ≤ w4.heap.size := HW4.out.size
          have Hown4 := hid (ownsRow_fr Hown.out (Fr.of_below (bth hb23 hb4) (fun _ => False)) (fun _ _ h => h))
          have hltw := Hown.out.lt
          have Hok4 := hid (fun x (hx : x ∈ out) => (⟨((Hok.out x hx).1.below (bth hb23 hb4)), (Hok.out x hx).2⟩ : x.In w4 ∧ Apart (.slice oa k ocap) x))
          have Hd4 := hid (show d.In w4 ∧ Apart (.slice oa k ocap) d from ⟨hdin.below hb4, fun ad had _ hk => by
            have h1 := (hltw ad.block hk).2
            have h2 := hfr ad had
            omega⟩)
          have Hdk := hid hdk
          clear hltw hdin hfr hdk hb2 hb3 hW3 hb23 hB4 hb4 hs23
          go_wp2_with (first
            | ((with_reducible show wpList _ _ _ ({ dst := _, op := Op.load 41 _, type := _, pos := _, after := _, guard := none } :: _) _ _); refine wpList_load_blk rfl 41 _ rfl w3.heap.size rfl 41 (sgA d.z d.root d.i d.sig d.p) _ HB4.out Try.underlying41 rfl HszS.out ?_)
            | ((with_reducible show wpList _ _ _ ({ dst := _, op := Op.buildSlice 24 _ _, type := _, pos := _, after := _, guard := _ } :: _) _ _); refine wpList_buildSlice_one rfl 24 41 _ rfl 36 (.agg (sgA 0 zero32 0 [] (.slice none 0 0))) (.agg (sgA d.z d.root d.i d.sig d.p)) (sgA d.z d.root d.i d.sig d.p) rfl Try.underlying24 Try.infoSigned2 rfl Hs36.out (by decide) (by decide) ?_)
            | (at_builtin; go_must (refine wpList_app rfl _ _ 24 rfl w.heap.size 41 i0 (.agg (sgA 0 zero32 0 [] (.slice none 0 0))) 36 88 Try.underlying24 hi hz0 hz1 hz2 rfl (by decide) _ k (sgF out) rfl ?c1 ⟨w4.heap.size, 0, none⟩ 1 1 (sgA d.z d.root d.i d.sig d.p).toList rfl ?c2 ?c3 ?c4 ?c5 ?c6 ?c7 ?_)))
          case c1 => exact Hown4.out.alloc _
          case c2 => rw [Array.length_toList, Hs36.out]
          case c3 => exact fun j u hj => row_alloc (w := w4) j u hj
          case c4 => exact sgA_one rfl
          case c5 => unfold maxLen; omega
          case c6 => omega
          case c7 => simp; omega
          intro v' w8 hown' hgrow hat
          have HB8 := hid ((HW4.out.alloc hw4 _).grown hgrow (by simp; omega) (fun q hq => (Hown4.out.lt q hq).1))
          have Hnew := hid (sgs_grow (w := w4) Hok4.out Hd4.out hgrow (v' := v') (fun q hq => by simpa using hat q hq))
          have HownN := hid (show w8.ownsRow w.heap.size 41 36 v' (k + 1) (sgF (out ++ [d])) by rw [sgF_snoc]; exact hown')
          clear hown' hgrow hat
          go_wp2
          go_roundw
          case rel =>
            refine ⟨k + 1, U, out ++ [d], by simp, by omega, rfl, by have := HUle.out; have := HS.out; omega, by rw [List.length_append, Hol.out]; rfl, ?_, Hnew.out, HownN.out, HB8.out⟩
            rw [List.map_append, show [d].map Sg.k = [dk] by rw [← Hdk.out]; rfl]
            exact Hnext.out
          case measure => simp [intOf]; omega
    · have hke : k = N := by omega
      subst hke
      have hp := Hp.out
      rw [Nat.sub_self, sgsP, Option.map_some, List.append_nil] at hp
      simp only at hp
      have hol := Hol.out
      have hown := Hown.out
      rw [← hol] at hown
      have HX := hid (SgsAt.of_owns hown (fun d hd => (Hok.out d hd).1))
      clear hown
      by_cases hS0 : S = []
      · subst hS0
        have Hf := hid (show getGL l = some (out.map Sg.k) by rw [HG.out, hp])
        clear hp
        rw [← hol] at *
        go_wp2
        go_ret2
        exact ⟨fun h => (by rw [Hf.out] at h; cases h), fun hs h => (by rw [Hf.out] at h; injection h with h; exact ⟨_, out, rfl, HX.out, h⟩), hb⟩
      · have hq : (S == []) = false := by simpa using hS0
        have Hf := hid (show getGL l = none by
          rw [HG.out, hp]
          cases S with
          | nil => exact absurd rfl hS0
          | cons x r => rfl)
        clear hp hol hS0
        go_wp2
        go_ret2
        exact GG.mk_no Hf.out rfl hb
end Go.Proofs.Ytjpnlnbpaecciaa
