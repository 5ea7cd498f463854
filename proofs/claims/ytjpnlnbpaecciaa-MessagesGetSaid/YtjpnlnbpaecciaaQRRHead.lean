/- the document's head and entries, ahead of bytes -/
import Derived.Test.YtjpnlnbpaecciaaQLawMForm
import Derived.Test.YtjpnlnbpaecciaaQMsgSigned
import Derived.Test.YtjpnlnbpaecciaaQRSGet
import Derived.Test.YtjpnlnbpaecciaaQRpGet

set_option maxRecDepth 100000
namespace Go.Proofs.Ytjpnlnbpaecciaa
open Go.RowKit Go.Spec
theorem rsgetU_any (l : List UInt8) (w : World) (hl : l.length ≤ 1000000000) :
    Calls Try.prog 75 #[sv l] w fun e w' => (∃ (d : Sg) (E : Int), d.k = (getS l).getD zeroK ∧ e = .returned (.tuple #[.agg (sgA d.z d.root d.i d.sig d.p), .int .i64 E]) ∧ d.In w' ∧ Fresh w d ∧ Hid (E = if (getS l).isSome then 0 else 10)) ∧ Below w.heap.size w w' :=
  (rsget_any l w hl).mono fun e w' h => by
    refine ⟨?_, h.below⟩
    cases hs : getS l with
    | none => exact ⟨⟨0, zero32, 0, [], [], none, 0⟩, 10, rfl, h.no hs, ⟨rfl, SlAt.nil _, by simp, by simp⟩, fun ad h => (by cases h), rfl⟩
    | some k =>
      obtain ⟨d, h1, h2, h3, h4⟩ := h.yes k hs
      exact ⟨d, 0, h1, h2, h3, h4, rfl⟩
def okH (s : List UInt8) : Bool := cuB s && (getS (cuT s)).isSome
set_option maxHeartbeats 4000000 in
theorem rheadR_any (s : List UInt8) (w : World) (hl : s.length ≤ 1000000000) :
    Calls Try.prog 95 #[sv s] w fun e w' => (∃ d : Sg, d.k = sgK1 (s, true) ∧ e = .returned (.tuple #[.agg (sgA d.z d.root d.i d.sig d.p), sv (cuR s), .bool (okH s)]) ∧ d.In w' ∧ Fresh w d) ∧ Below w.heap.size w w' := by
  have C1 := hid (fun w0 => rcut_gen s w0 (by omega))
  have hT := cuT_le s
  have C2 := hid (fun w0 => rsgetU_any (cuT s) w0 (by omega))
  have HO := hid (show okH s = (cuB s && (getS (cuT s)).isSome) from rfl)
  have HK := hid (show sgK1 (s, true) = (getS (cuT s)).getD zeroK from rfl)
  generalize okH s = OK at *
  generalize sgK1 (s, true) = KV at *
  generalize cuT s = T at *
  generalize cuR s = R at *
  generalize cuB s = B at *
  have HZ := hid (Blk.new w (sgA 0 zero32 0 [] (.slice none 0 0)) 41)
  have hb0 := hid ((Below.refl _ w).alloc (Nat.le_refl _) (.cells (sgA 0 zero32 0 [] (.slice none 0 0)) 41))
  clear hl hT
  go_enter Try.func95, Try.ntmps95
  go_upto_region 3 with (first
    | (go_at_call 74; refine (C1.out _).mono ?_; rintro e w1 ⟨rfl, hb1⟩; have Hb1 := hid hb1; clear hb1)
    | (go_at_call 75; refine (C2.out _).mono ?_; rintro e w2 ⟨⟨d, E, hdk, rfl, hdin, hfr, HE⟩, hb2⟩; have Hdk := hid hdk; have Hin := hid hdin; have Hfr := hid hfr; have Hb2 := hid hb2; have hr := hdin.r32; have HszS := hid (show (Try.prog.info? 41).map (·.size) = some (sgA d.z d.root d.i d.sig d.p).size by rw [sgA_size hr]; exact Try.sizeSigned); have Hs36 := hid (sgA_size (z := d.z) (i := d.i) (sig := d.sig) (p := d.p) hr); clear hdk hdin hfr hb2)
    | ((with_reducible show wpList _ _ _ ({ dst := _, op := Op.store _ _ _, type := _, pos := _, after := _, guard := _ } :: _) _ _); refine wpList_store_newA rfl 41 _ _ rfl rfl (sgA d.z d.root d.i d.sig d.p) rfl _ 41 (by rw [Hs36.out]; rfl) HszS.out (sgA_one rfl) ?_))
  have h1 := Hb1.out.size
  have h2 := Hb2.out.size
  have hs1 : w.heap.size + 1 ≤ w1.heap.size := by simpa using h1
  refine wp_world (fun W => d.In W ∧ Blk W w.heap.size (sgA 0 zero32 0 [] (.slice none 0 0)) 41 ∧ Below w.heap.size w W ∧ Blk W w2.heap.size (sgA d.z d.root d.i d.sig d.p) 41) ⟨Hin.out.below ((Below.refl _ _).alloc (Nat.le_refl _) _), ((HZ.out.later Hb1.out).later Hb2.out).alloc _, ?_, Blk.new _ _ _⟩ ?_
  · have h := (hb0.out.trans (Hb1.out.mono (by simp))).trans (Hb2.out.mono (by omega))
    exact h.alloc h.size _
  rintro w3 ⟨hI, hZ3, hW3, hL3⟩
  have HI := hid hI; have HZ3 := hid hZ3; have HW3 := hid hW3; have HL3 := hid hL3
  have Hfr1 := hid (show ∀ ad, d.a = some ad → w.heap.size < ad.block from fun ad had => by have := Hfr.out ad had; omega)
  have Hfin := hid (show ∀ b : Bool, b = OK → ((∃ d' : Sg, d'.k = KV ∧ Ending.returned (.tuple #[.agg (sgA d.z d.root d.i d.sig d.p), sv R, .bool b]) = Ending.returned (.tuple #[.agg (sgA d'.z d'.root d'.i d'.sig d'.p), sv R, .bool OK]) ∧ d'.In (w3.setRow w.heap.size (sgA d.z d.root d.i d.sig d.p)) ∧ Fresh w d') ∧ Below w.heap.size w (w3.setRow w.heap.size (sgA d.z d.root d.i d.sig d.p))) from fun b hb => by
    subst hb
    exact ⟨⟨d, by rw [HK.out]; exact Hdk.out, rfl, sgIn_but HI.out (But.own _ w.heap.size _) (fun ad had => Hfr1.out ad had), fun ad had => Nat.le_of_lt (Hfr1.out ad had)⟩, HW3.out.setRow (Nat.le_refl _) _⟩)
  clear hI hZ3 hW3 hL3 h1 h2 hs1
  cases B with
  | false =>
    have E2 := hid (show false = OK by rw [HO.out]; rfl)
    go_wp2_with (first
      | ((with_reducible show wpList _ _ _ ({ dst := _, op := Op.load 41 _, type := _, pos := _, after := _, guard := _ } :: _) _ _); refine wpList_load_blk rfl 41 _ rfl w2.heap.size rfl 41 (sgA d.z d.root d.i d.sig d.p) _ HL3.out Try.underlying41 rfl HszS.out ?_)
      | ((with_reducible show wpList _ _ _ ({ dst := _, op := Op.store 41 _ _, type := _, pos := _, after := _, guard := _ } :: _) _ _); refine wpList_store_blk rfl 41 _ _ rfl w.heap.size rfl (sgA d.z d.root d.i d.sig d.p) rfl (sgA 0 zero32 0 [] (.slice none 0 0)) 41 HZ3.out (by rw [Hs36.out]; rfl) HszS.out (sgA_one rfl) ?_))
    exact bodyPost_ret (results_cell3 rfl _ w.heap.size 41 (sgA d.z d.root d.i d.sig d.p) (0, 0) _ rfl (setRow_get (cs := sgA d.z d.root d.i d.sig d.p) HZ3.out) Try.underlying41 rfl HszS.out) rfl (by obtain ⟨⟨d', h1, h2, h3, h4⟩, h5⟩ := Hfin.out false E2.out; exact ⟨⟨d', h1, (by rw [← h2]; rfl), h3, h4⟩, h5⟩)
  | true =>
    cases hs : (getS T).isSome with
    | false =>
      have E2 := hid (show false = OK by rw [HO.out, hs]; rfl)
      have hE := HE.out
      rw [hs] at hE
      simp only [Bool.false_eq_true, if_false] at hE
      subst hE
      go_wp2_with (first
        | ((with_reducible show wpList _ _ _ ({ dst := _, op := Op.load 41 _, type := _, pos := _, after := _, guard := _ } :: _) _ _); refine wpList_load_blk rfl 41 _ rfl w2.heap.size rfl 41 (sgA d.z d.root d.i d.sig d.p) _ HL3.out Try.underlying41 rfl HszS.out ?_)
        | ((with_reducible show wpList _ _ _ ({ dst := _, op := Op.store 41 _ _, type := _, pos := _, after := _, guard := _ } :: _) _ _); refine wpList_store_blk rfl 41 _ _ rfl w.heap.size rfl (sgA d.z d.root d.i d.sig d.p) rfl (sgA 0 zero32 0 [] (.slice none 0 0)) 41 HZ3.out (by rw [Hs36.out]; rfl) HszS.out (sgA_one rfl) ?_))
      exact bodyPost_ret (results_cell3 rfl _ w.heap.size 41 (sgA d.z d.root d.i d.sig d.p) (0, 0) _ rfl (setRow_get (cs := sgA d.z d.root d.i d.sig d.p) HZ3.out) Try.underlying41 rfl HszS.out) rfl (by obtain ⟨⟨d', h1, h2, h3, h4⟩, h5⟩ := Hfin.out false E2.out; exact ⟨⟨d', h1, (by rw [← h2]; rfl), h3, h4⟩, h5⟩)
    | true =>
      have E2 := hid (show true = OK by rw [HO.out, hs]; rfl)
      have hE := HE.out
      rw [hs] at hE
      simp only [if_true] at hE
      subst hE
      go_wp2_with (first
        | ((with_reducible show wpList _ _ _ ({ dst := _, op := Op.load 41 _, type := _, pos := _, after := _, guard := _ } :: _) _ _); refine wpList_load_blk rfl 41 _ rfl w2.heap.size rfl 41 (sgA d.z d.root d.i d.sig d.p) _ HL3.out Try.underlying41 rfl HszS.out ?_)
        | ((with_reducible show wpList _ _ _ ({ dst := _, op := Op.store 41 _ _, type := _, pos := _, after := _, guard := _ } :: _) _ _); refine wpList_store_blk rfl 41 _ _ rfl w.heap.size rfl (sgA d.z d.root d.i d.sig d.p) rfl (sgA 0 zero32 0 [] (.slice none 0 0)) 41 HZ3.out (by rw [Hs36.out]; rfl) HszS.out (sgA_one rfl) ?_))
      exact bodyPost_ret (results_cell3 rfl _ w.heap.size 41 (sgA d.z d.root d.i d.sig d.p) (0, 0) _ rfl (setRow_get (cs := sgA d.z d.root d.i d.sig d.p) HZ3.out) Try.underlying41 rfl HszS.out) rfl (by obtain ⟨⟨d', h1, h2, h3, h4⟩, h5⟩ := Hfin.out true E2.out; exact ⟨⟨d', h1, (by rw [← h2]; rfl), h3, h4⟩, h5⟩)
end Go.Proofs.Ytjpnlnbpaecciaa
/- the document's entries, ahead of bytes -/
namespace Go.Proofs.Ytjpnlnbpaecciaa
open Go.RowKit Go.Spec
def okEn (s : List UInt8) : Bool := rdB s && decide (rdN s ≤ 16) && (enS (rdN s) (rdR s, true)).2
def enV (s : List UInt8) : List (List UInt8) := if okEn s then enL (rdN s) (rdR s, true) else []
def enR (s : List UInt8) : List UInt8 := if okEn s then (enS (rdN s) (rdR s, true)).1 else []
theorem enV_le (s : List UInt8) : (enV s).length ≤ 16 ∧ ∀ t ∈ enV s, t.length ≤ 200 := by
  unfold enV
  cases h : okEn s with
  | false => simp
  | true =>
    simp only [okEn, Bool.and_eq_true, decide_eq_true_eq] at h
    obtain ⟨_, h2, h3, _⟩ := en_back _ _ h.2
    simp only [if_true]
    exact ⟨by rw [h2]; exact h.1.2, h3⟩
theorem enR_le (s : List UInt8) : (enR s).length ≤ s.length := by
  unfold enR
  split
  · have : ∀ (n : Nat) (x : Rds), (enS n x).1.length ≤ x.1.length := by
      intro n
      induction n with
      | zero => intro x; exact Nat.le_refl _
      | succ n ih =>
        intro x
        unfold enS
        split
        · exact Nat.le_trans (ih _) (cuR_le _)
        · exact Nat.le_refl _
    exact Nat.le_trans (this _ _) (rdR_le s)
  · simp
theorem enS_stop (m : Nat) (S : List UInt8) (h : (cuB S && decide ((cuT S).length ≤ 200)) = false) : (enS (m + 1) (S, true)).2 = false := by
  have h2 : (txS (S, true) 200).2 = false := by unfold txS; simpa using h
  have : ∀ (n : Nat) (x : Rds), x.2 = false → (enS n x).2 = false := by
    intro n
    cases n with
    | zero => intro x hx; exact hx
    | succ n => intro x hx; simp [enS, hx]
  simp only [enS, if_true]
  exact this m _ h2
theorem enS_go (m : Nat) (S : List UInt8) (h : (cuB S && decide ((cuT S).length ≤ 200)) = true) : enS (m + 1) (S, true) = enS m (cuR S, true) ∧ enL (m + 1) (S, true) = cuT S :: enL m (cuR S, true) := by
  have h2 : txS (S, true) 200 = (cuR S, true) := by unfold txS; simp [h]
  simp only [enS, enL, if_true, h2, and_self]
set_option maxHeartbeats 4000000 in
theorem rentries_any (s : List UInt8) (w : World) (hl : s.length ≤ 1000000000) :
    Calls Try.prog 96 #[sv s] w fun e w' => (∃ v, e = .returned (.tuple #[v, sv (enR s), .bool (okEn s)]) ∧ w'.ownsRow w.heap.size 9 1 v (enV s).length ((enV s).map sv)) ∧ Below w.heap.size w w' := by
  obtain ⟨i0, hi, hz0, hz1, hz2⟩ := info_parts Try.infoStr
  have CR := hid (fun w0 => rread_gen s w0 (by omega))
  have HV := hid (show enV s = if okEn s then enL (rdN s) (rdR s, true) else [] from rfl)
  have HR := hid (show enR s = if okEn s then (enS (rdN s) (rdR s, true)).1 else [] from rfl)
  have HO := hid (show okEn s = (rdB s && decide (rdN s ≤ 16) && (enS (rdN s) (rdR s, true)).2) from rfl)
  have hRl := rdR_le s
  generalize enV s = EV at *
  generalize enR s = ER at *
  generalize okEn s = OK at *
  generalize rdN s = N at *
  generalize rdR s = R at *
  generalize rdB s = B at *
  have Hno := hid (show OK = false → ∃ v, Ending.returned (.tuple #[.slice none 0 0, sv [], .bool false]) = Ending.returned (.tuple #[v, sv ER, .bool OK]) ∧ ∀ w' : World, w'.ownsRow w.heap.size 9 1 v EV.length (EV.map sv) from fun h => by
    have h1 := HV.out; have h2 := HR.out
    rw [h] at h1 h2
    simp only [Bool.false_eq_true, if_false] at h1 h2
    subst h1 h2
    exact ⟨_, by rw [h], fun w' => World.ownsRow_nil _ _ _ _⟩)
  cases B with
  | false =>
    have E := hid (Hno.out (by rw [HO.out]; rfl))
    go_enter Try.func96, Try.ntmps96
    go_wp2_with (go_at_call 73; refine (CR.out _).mono ?_; rintro e w2 ⟨rfl, hb2⟩)
    obtain ⟨v, h1, h2⟩ := E.out
    go_ret3
    exact ⟨⟨v, by rw [← h1]; rfl, h2 _⟩, hb2⟩
  | true =>
  by_cases hN : N ≤ 16
  · have d1 : decide ((16 : Int) < (N : Int)) = false := decide_eq_false (by omega)
    have HO2 := hid (show OK = (enS N (R, true)).2 by rw [HO.out, decide_eq_true hN]; rfl)
    clear HO
    go_enter Try.func96, Try.ntmps96
    go_wp2_with (go_at_call 73; refine (CR.out _).mono ?_; rintro e w2 ⟨rfl, hb2⟩)
    go_loopw [6, 8, 9] (fun r o i wr => ∃ (k m : Nat) (S : List UInt8) (D : List (List UInt8)), i = .int .i64 k ∧ k + m = N ∧ r = sv S ∧ S.length ≤ R.length ∧ D.length = k ∧ enL N (R, true) = D ++ enL m (S, true) ∧ enS N (R, true) = enS m (S, true) ∧ wr.ownsRow w.heap.size 9 1 o D.length (D.map sv) ∧ Below w.heap.size w wr) (fun _ _ i _ => N - (intOf i).toNat)
    case atStart => exact ⟨0, N, R, [], rfl, by omega, rfl, Nat.le_refl _, rfl, rfl, rfl, World.ownsRow_nil _ _ _ _, hb2⟩
    case round =>
      obtain ⟨k, m, S, D, rfl, hkm, rfl, hS, hD, hL, hE, hown, hb⟩ := hrel
      rw [hD] at hown
      obtain ⟨oa, oc, rfl, _⟩ := ownsRow_form hown
      have HD := hid hD; clear hD
      have HL := hid hL; have HE := hid hE; have Hown := hid hown
      clear hL hE hown
      by_cases hlt : k < N
      · obtain ⟨m', rfl⟩ : ∃ m', m = m' + 1 := ⟨m - 1, by omega⟩
        have hkI : (k : Int) < (N : Int) := by omega
        have CC := hid (fun w0 => rcut_gen S w0 (by omega))
        have Hstop := hid (fun h => enS_stop m' S h)
        have Hgo := hid (fun h => enS_go m' S h)
        have hTl := cuT_le S
        have hUl := cuR_le S
        generalize cuT S = T at *
        generalize cuR S = U at *
        generalize cuB S = CB at *
        cases CB with
        | false =>
          have E := hid (Hno.out (by rw [HO2.out, HE.out]; exact Hstop.out rfl))
          go_wp2_with (go_at_call 74; refine (CC.out _).mono ?_; rintro e w3 ⟨rfl, hb3⟩)
          obtain ⟨v, h1, h2⟩ := E.out
          go_ret3
          exact ⟨⟨v, by rw [← h1]; rfl, h2 _⟩, bth hb hb3⟩
        | true =>
          by_cases hT : T.length ≤ 200
          · have d2 : decide ((200 : Int) < (T.length : Int)) = false := decide_eq_false (by omega)
            have Hg := hid (Hgo.out (by simp [hT]))
            go_wp2_with (first
              | (go_at_call 74; refine (CC.out _).mono ?_; rintro e w3 ⟨rfl, hb3⟩; have Hown3 := hid (Hown.out.later hb3); have HB3 := hid (bth hb hb3))
              | (refine wpList_buildSlice_one rfl 49 9 _ rfl 1 (.string ⟨#[]⟩) (sv T) #[sv T] rfl Try.underlying49 Try.infoStr2 rfl rfl (by decide) (by decide) ?_)
              | (at_builtin; go_must (refine wpList_app rfl _ _ 49 rfl w.heap.size 9 i0 (.string ⟨#[]⟩) 1 16 Try.underlying49 hi hz0 hz1 hz2 rfl (by decide) _ k (D.map sv) rfl ?c1 ⟨w3.heap.size, 0, none⟩ 1 1 [sv T] rfl ?c2 ?c3 ?c4 ?c5 ?c6 ?c7 ?_)))
            case c1 => exact Hown3.out.alloc _
            case c2 => rfl
            case c3 => exact row_alloc (cs := #[sv T])
            case c4 => intro u hu; simp at hu; subst hu; rfl
            case c5 => unfold maxLen; omega
            case c6 => omega
            case c7 => have := HB3.out.size; simp; omega
            intro v9 w8 hown' hgrow hat
            have HB8 := hid ((HB3.out.alloc HB3.out.size (.cells #[sv T] 9)).grown hgrow (by have := HB3.out.size; simp; omega) (fun q hq => (Hown3.out.lt q hq).1))
            have HownN := hid (show w8.ownsRow w.heap.size 9 1 v9 (D ++ [T]).length ((D ++ [T]).map sv) by rw [List.length_append, List.map_append, HD.out]; exact hown')
            clear hown' hgrow hat
            go_wp2
            go_roundw
            case rel => exact ⟨k + 1, m', U, D ++ [T], by go_num, by omega, rfl, by omega, by rw [List.length_append, HD.out]; rfl, by rw [HL.out, Hg.out.2]; simp, by rw [HE.out, Hg.out.1], HownN.out, HB8.out⟩
            case measure => simp [intOf]; omega
          · have d2 : decide ((200 : Int) < (T.length : Int)) = true := decide_eq_true (by omega)
            have E := hid (Hno.out (by rw [HO2.out, HE.out]; exact Hstop.out (by simp; omega)))
            clear hT
            go_wp2_with (go_at_call 74; refine (CC.out _).mono ?_; rintro e w3 ⟨rfl, hb3⟩)
            obtain ⟨v, h1, h2⟩ := E.out
            go_ret3
            exact ⟨⟨v, by rw [← h1]; rfl, h2 _⟩, bth hb hb3⟩
      · obtain rfl : m = 0 := by omega
        have hkN : k = N := by omega
        have hOK : OK = true := by rw [HO2.out, HE.out]; rfl
        have hEV : EV = D := by rw [HV.out, hOK, if_pos rfl, HL.out]; simp [enL]
        have hER : ER = S := by rw [HR.out, hOK, if_pos rfl, HE.out]; simp [enS]
        have H1 := hid hOK; have H2 := hid hEV; have H3 := hid hER
        clear hOK hEV hER hlt
        subst hkN
        go_wp2
        go_ret3
        exact ⟨⟨_, by rw [H1.out, H3.out]; rfl, by rw [H2.out, HD.out]; exact Hown.out⟩, hb⟩
  · have d1 : decide ((16 : Int) < (N : Int)) = true := decide_eq_true (by omega)
    have E := hid (Hno.out (by rw [HO.out, decide_eq_false hN]; rfl))
    clear hN
    go_enter Try.func96, Try.ntmps96
    go_wp2_with (go_at_call 73; refine (CR.out _).mono ?_; rintro e w2 ⟨rfl, hb2⟩)
    obtain ⟨v, h1, h2⟩ := E.out
    go_ret3
    exact ⟨⟨v, by rw [← h1]; rfl, h2 _⟩, hb2⟩
end Go.Proofs.Ytjpnlnbpaecciaa
/- the document's reply: what stands behind Id and Kind -/
namespace Go.Proofs.Ytjpnlnbpaecciaa
open Go.RowKit Go.Spec
/-- what reply answers -/
structure RRA (id kd : Nat) (s : List UInt8) (e : Ending) (w w' : World) : Prop where
  ex : ∃ (y : RpK) (vh ve vp : Value) (ds : List Sg) (b : Bool), e = .returned (.tuple #[.agg (rpC y vh ve vp), .bool b]) ∧ RpIn w' y vh ve vp ds ∧ RpFar w.heap.size vh ve vp ds ∧ RpSmall y ∧ (b = true → refBody id kd s = some y) ∧ (b = false → refBody id kd s = none)
  below : Below w.heap.size w w'
theorem RpFar.mono {B B' : Nat} {vh ve vp : Value} {ds : List Sg} (h : RpFar B vh ve vp ds) (hB : B' ≤ B) : RpFar B' vh ve vp ds :=
  ⟨fun ad n c e => Nat.lt_of_le_of_lt hB (h.heads ad n c e), fun ad n c e => Nat.lt_of_le_of_lt hB (h.entries ad n c e), fun ad n c e => Nat.lt_of_le_of_lt hB (h.proof ad n c e), fun d hd ad had => Nat.lt_of_le_of_lt hB (h.path d hd ad had)⟩
theorem RRA.mk' {id kd : Nat} {s : List UInt8} {w W : World} {y : RpK} {vh ve vp : Value} {ds : List Sg} {b : Bool} {e : Ending} (he : e = .returned (.tuple #[.agg (rpC y vh ve vp), .bool b])) (hin : RpIn W y vh ve vp ds) (hf : RpFar (w.heap.size + 1) vh ve vp ds) (hs : RpSmall y)
    (h1 : b = true → refBody id kd s = some y) (h2 : b = false → refBody id kd s = none) (hb : Below w.heap.size w W) : RRA id kd s e w (W.setRow (w.heap.size + 1) (rpC y vh ve vp)) :=
  ⟨⟨y, vh, ve, vp, ds, b, he, hin.but (But.own _ _ _) hf (Nat.le_refl _), hf.mono (by omega), hs, h1, h2⟩, hb.setRow (by omega) _⟩
theorem Far.own {w : World} {B base e size n : Nat} {v : Value} {xs : List Value} (h : w.ownsRow base e size v n xs) (hB : B < base) : Far B v := fun ad m c hv => by
  have := (h.lt ad.block (by rw [hv]; rfl)).1
  omega
theorem own_but {w w' : World} {g base e size n : Nat} {v : Value} {xs : List Value} (h : w.ownsRow base e size v n xs) (hb : But g w w') (hg : g < base) : w'.ownsRow base e size v n xs :=
  h.kept hb (by
    cases hv : v.ownBlock with
    | none => exact .inl rfl
    | some k => have := (h.lt k hv).1; exact .inr (fun e => by injection e with e; omega))
theorem runhashes_row (l : List UInt8) (w : World) (hn : l.length ≤ 9223372036854775807) :
    Calls Try.prog 94 #[sv l] w fun e w' => ∃ v, e = .returned (.tuple #[v, sv (usR l), .bool (usB l)]) ∧ w'.ownsRow w.heap.size 34 32 v (usX l).length (hflat (usX l)) ∧ Below w.heap.size w w' :=
  (runhashes_any l w hn).mono fun _ _ h => by
    obtain ⟨v, hv, hat, hown⟩ := uh_gen h
    exact ⟨v, hv, hown, h.below⟩
theorem us_small (s : List UInt8) : (usX s).length ≤ 1000000 := Nat.le_trans (us_le s) (by decide)
def itR : Nat → List UInt8 → List UInt8
  | 0, s => s
  | n + 1, s => cuR (itR n s)
theorem itR_le (s : List UInt8) : ∀ n, (itR n s).length ≤ s.length
  | 0 => Nat.le_refl _
  | n + 1 => Nat.le_trans (cuR_le _) (itR_le s n)
def ksR (n : Nat) (s : List UInt8) : List SgK := (List.range n).map fun i => sgK1 (itR i s, true)
theorem ksR_succ (n : Nat) (s : List UInt8) : ksR (n + 1) s = ksR n s ++ [sgK1 (itR n s, true)] := by
  unfold ksR
  rw [List.range_succ, List.map_append]
  rfl
theorem refB2 (id : Nat) (s : List UInt8) : (okH (itR 0 s) = true → refBody id 2 s = some ⟨id, (2 : Nat), 0, ksR 1 s, [], []⟩) ∧ (okH (itR 0 s) = false → refBody id 2 s = none) := by
  have e : refBody id 2 s = if okH s then some ⟨id, 2, 0, [sgK1 (s, true)], [], []⟩ else none := rfl
  constructor
  · intro h
    have h : okH s = true := h
    rw [e, h]; rfl
  · intro h
    have h : okH s = false := h
    rw [e, h]; rfl
theorem refB5 (id : Nat) (s : List UInt8) : (okH (itR 0 s) = true → okH (itR 1 s) = true → refBody id 5 s = some ⟨id, (5 : Nat), 0, ksR 2 s, [], []⟩) ∧ (okH (itR 0 s) = false → refBody id 5 s = none) ∧ (okH (itR 1 s) = false → refBody id 5 s = none) := by
  have e : refBody id 5 s = if okH s && okH (cuR s) then some ⟨id, 5, 0, [sgK1 (s, true), sgK1 (cuR s, true)], [], []⟩ else none := rfl
  refine ⟨fun h h2 => ?_, fun h => ?_, fun h => ?_⟩
  · have h : okH s = true := h
    have h2 : okH (cuR s) = true := h2
    rw [e, h, h2]; rfl
  · have h : okH s = false := h
    rw [e, h]; rfl
  · have h : okH (cuR s) = false := h
    rw [e, h, Bool.and_false]; rfl
/-- both kinds with heads: after n good ones -/
theorem refBH (id kd : Nat) (s : List UInt8) (hk : kd = 2 ∨ kd = 5) : (∀ n, n < 1 + kd / 5 → okH (itR n s) = false → refBody id kd s = none) ∧ ((∀ n, n < 1 + kd / 5 → okH (itR n s) = true) → refBody id kd s = some ⟨id, kd, 0, ksR (1 + kd / 5) s, [], []⟩) := by
  rcases hk with rfl | rfl
  · refine ⟨fun n hn h => ?_, fun h => (refB2 id s).1 (h 0 (by decide))⟩
    have : n = 0 := by omega
    subst this
    exact (refB2 id s).2 h
  · refine ⟨fun n hn h => ?_, fun h => (refB5 id s).1 (h 0 (by decide)) (h 1 (by decide))⟩
    rcases (by omega : n = 0 ∨ n = 1) with rfl | rfl
    · exact (refB5 id s).2.1 h
    · exact (refB5 id s).2.2 h
set_option maxHeartbeats 16000000 in
theorem rreply_any (id kd : Nat) (s : List UInt8) (w : World) (hk5 : kd ≤ 5) (hl : s.length ≤ 1000000000) :
    Calls Try.prog 86 #[.agg (rpC ⟨id, kd, 0, [], [], []⟩ nilV nilV nilV), sv s] w fun e w' => RRA id kd s e w w' := by
  have HMK := hid (fun (W : World) (y : RpK) (vh ve vp : Value) (ds : List Sg) (b : Bool) e => @RRA.mk' id kd s w W y vh ve vp ds b e)
  go_enter Try.func86, Try.ntmps86
  go_upto_region 1 with fail
  refine wp_world (fun W => Blk W w.heap.size (rpC ⟨id, kd, 0, [], [], []⟩ nilV nilV nilV) 51 ∧ Blk W (w.heap.size + 1) rpZ 51 ∧ Below w.heap.size w W) ⟨(Blk.new _ _ _).alloc _, Blk.new' _ _ _ (by simp), ((Below.refl _ w).alloc (Nat.le_refl _) _).alloc (by simp) _⟩ ?_
  rintro w1 ⟨hX1, hZ1, hW1⟩
  have HX1 := hid hX1; have HZ1 := hid hZ1; have HW1 := hid hW1
  have hzs := hZ1.lt
  have c1 : w1.cell? ⟨w.heap.size, 1, none⟩ = some (.int .i64 (kd : Int)) := Blk.cell hX1 1
  clear hX1 hZ1 hW1
  rcases (show kd = 1 ∨ (kd = 2 ∨ kd = 5) ∨ kd = 3 ∨ kd = 4 ∨ kd = 0 by omega) with hK | hK | hK | hK | hK
  · have HB := hid (show refBody id kd s = if rdB s then some ⟨id, kd, (min (rdN s) 1000 : Nat), [], [], []⟩ else none by subst hK; rfl)
    have e5 : ((kd : Int) == 5) = false := by simp; omega
    have e1 : ((kd : Int) == 1) = true := by simp; omega
    clear hK
    have CR := hid (fun w0 => rread_gen s w0 (by omega))
    have hnl := rdN_lt s
    generalize rdR s = R at *
    generalize rdN s = n at *
    generalize rdB s = B at *
    obtain ⟨M, hM⟩ : ∃ M, min n 1000 = M := ⟨_, rfl⟩
    rw [hM] at HB
    have hM2 : M ≤ 1000 := by omega
    have m1 : (if (n : Int) < 1000 then (n : Int) else 1000) = (M : Int) := by split <;> omega
    have m2 : (if (1000 : Int) < (n : Int) then 1000 else (n : Int)) = (M : Int) := by split <;> omega
    have m3 : (if n < 1000 then (n : Int) else 1000) = (M : Int) := by split <;> omega
    have m4 : (if 1000 < n then 1000 else (n : Int)) = (M : Int) := by split <;> omega
    have Hnl := hid hnl
    clear hM hnl
    go_upto_region 5 with (go_at_call 73; refine (CR.out _).mono ?_; rintro e w2 ⟨rfl, hb2⟩; have HX2 := hid (HX1.out.later hb2); have HZ2 := hid (HZ1.out.later hb2); have HW2 := hid (HW1.out.trans (hb2.mono HW1.out.size)); have hc2 : w2.cell? ⟨w.heap.size, 2, none⟩ = some (.int .i64 0) := Blk.cell HX2.out 2; have hf2 : w2.frozen? ⟨w.heap.size, 2, none⟩ = false := Blk.free HX2.out 2)
    refine wp_world (fun W => Blk W w.heap.size (rpC ⟨id, kd, (M : Nat), [], [], []⟩ nilV nilV nilV) 51 ∧ Blk W (w.heap.size + 1) rpZ 51 ∧ Below w.heap.size w W) ⟨Blk.setCell HX2.out 2 _, Blk.setCell_ne HZ2.out (by simp) _, HW2.out.setCell (Nat.le_refl _) _⟩ ?_
    rintro w3 ⟨hX3, hZ3, hW3⟩
    have HX3 := hid hX3; have HZ3 := hid hZ3; have HW3 := hid hW3
    clear hX3 hZ3 hW3 hc2 hf2 m1 m2 m3 m4
    go_wp2_with (first
      | ((with_reducible show wpList _ _ _ ({ dst := _, op := Op.load 51 _, type := _, pos := _, after := _, guard := _ } :: _) _ _); refine wpList_load_blk rfl 51 _ rfl w.heap.size rfl 51 (rpC ⟨id, kd, (M : Nat), [], [], []⟩ nilV nilV nilV) _ HX3.out Try.underlying51 rfl Try.sizeRp ?_)
      | ((with_reducible show wpList _ _ _ ({ dst := _, op := Op.store 51 _ _, type := _, pos := _, after := _, guard := _ } :: _) _ _); refine wpList_store_blk rfl 51 _ _ rfl (w.heap.size + 1) rfl (rpC ⟨id, kd, (M : Nat), [], [], []⟩ nilV nilV nilV) rfl rpZ 51 HZ3.out rfl Try.sizeRp (rpC_one _ _ _ _ rfl rfl rfl) ?_))
    exact bodyPost_ret (results_cell2 rfl _ (w.heap.size + 1) 51 (rpC ⟨id, kd, (M : Nat), [], [], []⟩ nilV nilV nilV) (0, 0) _ rfl (setRow_get (cs := rpC ⟨id, kd, (M : Nat), [], [], []⟩ nilV nilV nilV) HZ3.out) Try.underlying51 rfl Try.sizeRp) rfl
      (HMK.out w3 ⟨id, kd, (M : Nat), [], [], []⟩ nilV nilV nilV [] B _ rfl (rpIn_nil _ _ _ _) ⟨Far.nil _, Far.nil _, Far.nil _, fun d hd => by simp at hd⟩ ⟨by simp, by simp, by simp, by simp, by simp only; omega⟩ (fun h => by rw [HB.out, h]; rfl) (fun h => by rw [HB.out, h]; rfl) HW3.out)
  · have HB := hid (refBH id kd s hK)
    obtain ⟨q, hq⟩ : ∃ q, kd / 5 = q := ⟨_, rfl⟩
    have hq1 : q ≤ 1 := by omega
    have hq2 : (kd : Int).tdiv 5 = (q : Int) := by rw [← hq]; rfl
    have hq3 : (kd : Int) / 5 = (q : Int) := by omega
    rw [hq] at HB
    have ho : ((kd : Int) == 2) = true ∨ (((kd : Int) == 2) = false ∧ ((kd : Int) == 5) = true) := by rcases hK with h | h <;> simp [h]
    have e1 : ((kd : Int) == 1) = false := by simp; omega
    obtain ⟨i0, hi0, hz0, hz1, hz2⟩ := info_parts Try.infoSigned
    clear hK hq
    have HZs := hid hzs
    have HMAIN : ∀ (M : Nat), M = 1 + q → True := fun _ _ => trivial
    clear HMAIN
    rcases ho with e2 | ⟨e2, e5⟩
    all_goals
      go_wp2_with fail
      go_loopw [1, 9] (fun sv0 i wr => ∃ (j : Nat) (S : List UInt8) (ds : List Sg) (v : Value), sv0 = sv S ∧ i = .int .i64 j ∧ j ≤ 1 + q ∧ S = itR j s ∧ (∀ n, n < j → okH (itR n s) = true) ∧ ds.map Sg.k = ksR j s ∧ ds.length = j ∧ Blk wr w.heap.size (rpC ⟨id, kd, 0, [], [], []⟩ v nilV nilV) 51 ∧ Blk wr (w.heap.size + 1) rpZ 51 ∧ Below w.heap.size w wr ∧ wr.ownsRow (w.heap.size + 2) 41 36 v ds.length (sgF ds) ∧ (∀ d ∈ ds, d.In wr ∧ Apart v d) ∧ (∀ d ∈ ds, ∀ ad, d.a = some ad → w.heap.size + 1 < ad.block) ∧ w1.heap.size ≤ wr.heap.size) (fun _ i _ => 1 + q - (intOf i).toNat)
      case atStart => exact ⟨0, s, [], nilV, rfl, rfl, by omega, rfl, fun n h => (by omega), rfl, rfl, HX1.out, HZ1.out, HW1.out, World.ownsRow_nil _ _ _ _, fun d h => (by simp at h), fun d h => (by simp at h), Nat.le_refl _⟩
      case round =>
        obtain ⟨j, S, ds, v, rfl, rfl, hj, hS, hok, hks, hlen, hX, hZ, hW, hown, hin, hfp, hsz⟩ := hrel
        obtain ⟨va, vc, rfl, _⟩ := ownsRow_form hown
        have hSl : S.length ≤ 1000000000 := by rw [hS]; exact Nat.le_trans (itR_le s j) hl
        have HS := hid hS; have Hok := hid hok; have Hks := hid hks; have Hlen := hid hlen; have HX := hid hX; have HZ := hid hZ; have HW := hid hW; have Hown := hid hown; have Hin := hid hin; have Hfp := hid hfp
        have cx1 : wr.cell? ⟨w.heap.size, 1, none⟩ = some (.int .i64 (kd : Int)) := Blk.cell hX 1
        have hds2 : ds.length ≤ 2 := by omega
        clear hS hok hks hlen hX hZ hW hown hin hfp c1
        have Hout := hid (show ∀ (W : World), Below wr.heap.size wr W → RpIn W ⟨id, kd, 0, ksR j s, [], []⟩ (.slice va ds.length vc) nilV nilV ds from fun W hb =>
          ⟨(SgsAt.of_owns Hown.out (fun d hd => (Hin.out d hd).1)).below hb, Hks.out, StrsAt.nil _, SlAt.nil _⟩)
        have Hfar := hid (show RpFar (w.heap.size + 1) (.slice va ds.length vc) nilV nilV ds from ⟨Far.own Hown.out (by omega), Far.nil _, Far.nil _, Hfp.out⟩)
        have Hsm := hid (show RpSmall ⟨id, kd, 0, ksR j s, [], []⟩ from ⟨by rw [← Hks.out, List.length_map]; omega, by simp, by simp, by simp, by simp⟩)
        have hWs := HW.out.size
        by_cases hlt : j < 1 + q
        · have hI : (j : Int) < 1 + (q : Int) := by omega
          have CH := hid (fun w0 => rheadR_any S w0 hSl)
          have Hnx := hid (show itR (j + 1) s = cuR S ∧ ksR (j + 1) s = ksR j s ++ [sgK1 (S, true)] by rw [HS.out]; exact ⟨rfl, ksR_succ j s⟩)
          generalize cuR S = U at *
          generalize sgK1 (S, true) = KK at *
          cases hO : okH S with
          | false =>
            have E := hid (show refBody id kd s = none from HB.out.1 j hlt (by rw [← HS.out]; exact hO))
            rw [hO] at CH
            clear hO
            go_upto_region 12 with (first
              | (go_at_call 95; refine (CH.out _).mono ?_; rintro e w2 ⟨⟨d, hdk, rfl, hdin, hfr⟩, hb2⟩; have Hb2 := hid hb2; have hr := hdin.r32; have HszS := hid (show (Try.prog.info? 41).map (·.size) = some (sgA d.z d.root d.i d.sig d.p).size by rw [sgA_size hr]; exact Try.sizeSigned); have Hs36 := hid (sgA_size (z := d.z) (i := d.i) (sig := d.sig) (p := d.p) hr); clear hdk hdin hfr hb2)
              | ((with_reducible show wpList _ _ _ ({ dst := _, op := Op.store _ _ _, type := _, pos := _, after := _, guard := _ } :: _) _ _); refine wpList_store_newA rfl 41 _ _ rfl rfl (sgA d.z d.root d.i d.sig d.p) rfl _ 41 (by rw [Hs36.out]; rfl) HszS.out (sgA_one rfl) ?_))
            have hbb : Below wr.heap.size wr (w2.alloc (.cells (sgA d.z d.root d.i d.sig d.p) 41)) := Hb2.out.alloc Hb2.out.size _
            refine wp_world (fun W => Below wr.heap.size wr W) hbb ?_
            intro w4 hb4
            have HX4 := hid (HX.out.later hb4); have HZ4 := hid (HZ.out.later hb4)
            have HW4 := hid (HW.out.trans (hb4.mono hWs))
            have HI4 := hid (Hout.out w4 hb4)
            clear hb4 cx1
            go_wp2_with (first
              | ((with_reducible show wpList _ _ _ ({ dst := _, op := Op.load 51 _, type := _, pos := _, after := _, guard := _ } :: _) _ _); refine wpList_load_blk rfl 51 _ rfl w.heap.size rfl 51 (rpC ⟨id, kd, 0, [], [], []⟩ (.slice va ds.length vc) nilV nilV) _ HX4.out Try.underlying51 rfl Try.sizeRp ?_)
              | ((with_reducible show wpList _ _ _ ({ dst := _, op := Op.store 51 _ _, type := _, pos := _, after := _, guard := _ } :: _) _ _); refine wpList_store_blk rfl 51 _ _ rfl (w.heap.size + 1) rfl (rpC ⟨id, kd, 0, [], [], []⟩ (.slice va ds.length vc) nilV nilV) rfl rpZ 51 HZ4.out rfl Try.sizeRp (rpC_one _ _ _ _ rfl rfl rfl) ?_))
            exact bodyPost_ret (results_cell2 rfl _ (w.heap.size + 1) 51 (rpC ⟨id, kd, 0, [], [], []⟩ (.slice va ds.length vc) nilV nilV) (0, 0) _ rfl (setRow_get (cs := rpC ⟨id, kd, 0, [], [], []⟩ (.slice va ds.length vc) nilV nilV) HZ4.out) Try.underlying51 rfl Try.sizeRp) rfl
              (HMK.out w4 ⟨id, kd, 0, ksR j s, [], []⟩ _ _ _ ds false _ rfl HI4.out Hfar.out Hsm.out (fun h => by cases h) (fun _ => E.out) HW4.out)
          | true =>
            have HO := hid hO
            rw [hO] at CH
            clear hO
            go_upto_region 12 with (first
              | (go_at_call 95; refine (CH.out _).mono ?_; rintro e w2 ⟨⟨d, hdk, rfl, hdin, hfr⟩, hb2⟩; have Hb2 := hid hb2; have Hdk := hid hdk; have Hdin := hid hdin; have Hfr := hid hfr; have hr := hdin.r32; have HszS := hid (show (Try.prog.info? 41).map (·.size) = some (sgA d.z d.root d.i d.sig d.p).size by rw [sgA_size hr]; exact Try.sizeSigned); have Hs36 := hid (sgA_size (z := d.z) (i := d.i) (sig := d.sig) (p := d.p) hr); clear hdk hdin hfr hb2)
              | ((with_reducible show wpList _ _ _ ({ dst := _, op := Op.store _ _ _, type := _, pos := _, after := _, guard := _ } :: _) _ _); refine wpList_store_newA rfl 41 _ _ rfl rfl (sgA d.z d.root d.i d.sig d.p) rfl _ 41 (by rw [Hs36.out]; rfl) HszS.out (sgA_one rfl) ?_))
            have hb2s := Hb2.out.size
            have hbb : Below wr.heap.size wr (w2.alloc (.cells (sgA d.z d.root d.i d.sig d.p) 41)) := Hb2.out.alloc Hb2.out.size _
            have hfd : ∀ ad, d.a = some ad → wr.heap.size ≤ ad.block := Hfr.out
            have hap : Apart (.slice va ds.length vc) d := fun ad had _ hk => by
              have h1 := (Hown.out.lt ad.block hk).2
              have h2 := hfd ad had
              omega
            refine wp_world (fun W => Below wr.heap.size wr W ∧ Blk W w2.heap.size (sgA d.z d.root d.i d.sig d.p) 41 ∧ d.In W) ⟨hbb, Blk.new _ _ _, Hdin.out.below ((Below.refl _ _).alloc (Nat.le_refl _) _)⟩ ?_
            rintro w4 ⟨hb4, hL4, hd4⟩
            have HX4 := hid (HX.out.later hb4); have HZ4 := hid (HZ.out.later hb4)
            have HW4 := hid (HW.out.trans (hb4.mono hWs))
            have HL4 := hid hL4; have Hd4 := hid hd4
            have Hown4 := hid (Hown.out.later hb4)
            have Hin4 := hid (show ∀ x ∈ ds, x.In w4 ∧ Apart (.slice va ds.length vc) x from fun x hx => ⟨(Hin.out x hx).1.below hb4, (Hin.out x hx).2⟩)
            have Hap := hid hap
            have hb4s := hb4.size
            have hc3 : w4.cell? ⟨w.heap.size, 3, none⟩ = some (.slice va ds.length vc) := Blk.cell HX4.out 3
            clear hb4 cx1 hL4 hd4 hbb hap
            go_wp2_with (first
              | ((with_reducible show wpList _ _ _ ({ dst := _, op := Op.load 41 _, type := _, pos := _, after := _, guard := _ } :: _) _ _); refine wpList_load_blk rfl 41 _ rfl w2.heap.size rfl 41 (sgA d.z d.root d.i d.sig d.p) _ HL4.out Try.underlying41 rfl HszS.out ?_)
              | (refine wpList_buildSlice_one rfl 24 41 _ rfl 36 (.agg (sgA 0 zero32 0 [] (.slice none 0 0))) (.agg (sgA d.z d.root d.i d.sig d.p)) (sgA d.z d.root d.i d.sig d.p) rfl Try.underlying24 Try.infoSigned2 rfl (sgA_size hr) (by decide) (by decide) ?_)
              | (at_builtin; go_must (refine wpList_app rfl _ _ 24 rfl (w.heap.size + 2) 41 i0 (.agg (sgA 0 zero32 0 [] (.slice none 0 0))) 36 88 Try.underlying24 hi0 hz0 hz1 hz2 rfl (by decide) _ ds.length (sgF ds) rfl ?c1 ⟨w4.heap.size, 0, none⟩ 1 1 (sgA d.z d.root d.i d.sig d.p).toList rfl ?c2 ?c3 ?c4 ?c5 ?c6 ?c7 ?_)))
            case c1 => exact Hown4.out.alloc _
            case c2 => rw [Array.length_toList, sgA_size hr]
            case c3 => exact fun j u hj => row_alloc (w := w4) j u hj
            case c4 => exact sgA_one rfl
            case c5 => unfold maxLen; omega
            case c6 => omega
            case c7 => simp; omega
            intro v9 w8 hown8 hg8 hat8
            have hall8 := sgs_grow (v' := v9) Hin4.out ⟨Hd4.out, Hap.out⟩ hg8 (by simpa using hat8)
            have hsf : sgF (ds ++ [d]) = sgF ds ++ (sgA d.z d.root d.i d.sig d.p).toList := sgF_snoc ds d
            have hblk8 : ∀ g' cs t, Blk w4 g' cs t → g' < w.heap.size + 2 → Blk w8 g' cs t := fun g' cs t hB hle => (hg8.block g' (by have := hB.lt; simp; omega) (fun e => by have := (Hown4.out.lt g' e.symm).1; omega)).trans (hB.alloc _)
            have HX8 := hid (hblk8 _ _ _ HX4.out (by omega))
            have HZ8 := hid (hblk8 _ _ _ HZ4.out (by omega))
            have HW8 := hid ((HW4.out.alloc HW4.out.size (.cells (sgA d.z d.root d.i d.sig d.p) 41)).grown hg8 (by have := HW4.out.size; simp; omega) (fun k hk => by have := (Hown4.out.lt k hk).1; omega))
            have hs8 := hg8.size
            have hs8' : wr.heap.size ≤ w8.heap.size := by simp at hs8; omega
            have Hown8 := hid (show w8.ownsRow (w.heap.size + 2) 41 36 v9 (ds.length + 1) (sgF (ds ++ [d])) by rw [hsf]; exact hown8)
            have Hall8 := hid hall8
            obtain ⟨va9, vc9, rfl, _⟩ := ownsRow_form hown8
            have hc8 : w8.cell? ⟨w.heap.size, 3, none⟩ = some (.slice va ds.length vc) := Blk.cell HX8.out 3
            have hf8 : w8.frozen? ⟨w.heap.size, 3, none⟩ = false := Blk.free HX8.out 3
            clear hown8 hg8 hat8 hall8 hsf hblk8 hs8 hc3
            go_wp2
            go_roundw
            case rel =>
              refine ⟨j + 1, U, ds ++ [d], .slice va9 (ds.length + 1) vc9, rfl, by go_num, by omega, Hnx.out.1.symm, ?_, ?_, by rw [List.length_append, Hlen.out]; rfl, Blk.setCell HX8.out 3 _, Blk.setCell_ne HZ8.out (by simp) _, HW8.out.setCell (Nat.le_refl _) _, ?_, ?_, ?_, by rw [setCell_size]; omega⟩
              · intro n hn
                rcases Nat.lt_succ_iff_lt_or_eq.1 hn with h | rfl
                · exact Hok.out n h
                · rw [← HS.out]; exact HO.out
              · rw [List.map_append, Hks.out, Hnx.out.2]
                simp [Hdk.out]
              · rw [List.length_append]; exact own_but Hown8.out (But.setCellW w8 w.heap.size 3 _) (by omega)
              · intro x hx
                have hxx := Hall8.out x hx
                refine ⟨sgIn_but hxx.1 (But.setCellW w8 w.heap.size 3 _) ?_, hxx.2⟩
                intro ad had
                rw [List.mem_append, List.mem_singleton] at hx
                rcases hx with hx | rfl
                · have := Hfp.out x hx ad had; omega
                · have := hfd ad had; omega
              · intro x hx ad had
                rw [List.mem_append, List.mem_singleton] at hx
                rcases hx with hx | rfl
                · exact Hfp.out x hx ad had
                · have := hfd ad had; have := HZs.out; omega
            case measure => simp [intOf]; omega
        · have hI : ¬ (j : Int) < 1 + (q : Int) := by omega
          have hjq : j = 1 + q := by omega
          have E := hid (show refBody id kd s = some ⟨id, kd, 0, ksR j s, [], []⟩ by rw [hjq]; exact HB.out.2 (fun n hn => Hok.out n (by omega)))
          have HI4 := hid (Hout.out wr (Below.refl _ _))
          clear hlt hjq
          go_wp2_with (first
            | ((with_reducible show wpList _ _ _ ({ dst := _, op := Op.load 51 _, type := _, pos := _, after := _, guard := _ } :: _) _ _); refine wpList_load_blk rfl 51 _ rfl w.heap.size rfl 51 (rpC ⟨id, kd, 0, [], [], []⟩ (.slice va ds.length vc) nilV nilV) _ HX.out Try.underlying51 rfl Try.sizeRp ?_)
            | ((with_reducible show wpList _ _ _ ({ dst := _, op := Op.store 51 _ _, type := _, pos := _, after := _, guard := _ } :: _) _ _); refine wpList_store_blk rfl 51 _ _ rfl (w.heap.size + 1) rfl (rpC ⟨id, kd, 0, [], [], []⟩ (.slice va ds.length vc) nilV nilV) rfl rpZ 51 HZ.out rfl Try.sizeRp (rpC_one _ _ _ _ rfl rfl rfl) ?_))
          exact bodyPost_ret (results_cell2 rfl _ (w.heap.size + 1) 51 (rpC ⟨id, kd, 0, [], [], []⟩ (.slice va ds.length vc) nilV nilV) (0, 0) _ rfl (setRow_get (cs := rpC ⟨id, kd, 0, [], [], []⟩ (.slice va ds.length vc) nilV nilV) HZ.out) Try.underlying51 rfl Try.sizeRp) rfl
            (HMK.out wr ⟨id, kd, 0, ksR j s, [], []⟩ _ _ _ ds true _ rfl HI4.out Hfar.out Hsm.out (fun _ => E.out) (fun h => by cases h) HW.out)
  · have HB := hid (show refBody id kd s = if okEn s && usB (enS (rdN s) (rdR s, true)).1 then some ⟨id, kd, 0, [], enL (rdN s) (rdR s, true), usX (enS (rdN s) (rdR s, true)).1⟩ else none by subst hK; rfl)
    have HV := hid (show okEn s = true → enV s = enL (rdN s) (rdR s, true) ∧ enR s = (enS (rdN s) (rdR s, true)).1 from fun h => ⟨by unfold enV; rw [if_pos h], by unfold enR; rw [if_pos h]⟩)
    have e1 : ((kd : Int) == 1) = false := by simp; omega
    have e2 : ((kd : Int) == 2) = false := by simp; omega
    have e5 : ((kd : Int) == 5) = false := by simp; omega
    have e3 : ((kd : Int) == 3) = true := by simp; omega
    clear hK
    have hRl := enR_le s
    have CE := hid (fun w0 => rentries_any s w0 hl)
    have HEl := hid (enV_le s)
    have CU := hid (fun w0 => runhashes_row (enR s) w0 (by omega))
    have HU32 := hid (us_32 (enR s))
    have HUs := hid (us_small (enR s))
    have HB2 := hid (show (okEn s = true → usB (enR s) = true → refBody id kd s = some ⟨id, kd, 0, [], enV s, usX (enR s)⟩) ∧ (okEn s = false → refBody id kd s = none) ∧ (usB (enR s) = false → okEn s = true → refBody id kd s = none) by
      refine ⟨fun h1 h2 => ?_, fun h1 => ?_, fun h2 h1 => ?_⟩
      · obtain ⟨v1, v2⟩ := HV.out h1
        rw [v2] at h2
        rw [HB.out, h1, h2, v1, v2]; rfl
      · rw [HB.out, h1]; rfl
      · obtain ⟨v1, v2⟩ := HV.out h1
        rw [v2] at h2
        rw [HB.out, h1, h2]; rfl)
    clear HB HV
    generalize enV s = EV at *
    generalize enR s = ER at *
    generalize okEn s = OK at *
    generalize usX ER = PX at *
    generalize usR ER = PR at *
    generalize usB ER = PB at *
    go_upto_region 19 with (first
      | (go_at_call 96; refine (CE.out _).mono ?_; rintro e w2 ⟨⟨v2, rfl, hown2⟩, hb2⟩; obtain ⟨va2, vc2, rfl, _⟩ := ownsRow_form hown2; have Hown2 := hid hown2; have Hb2 := hid hb2; clear hown2 hb2)
      | (go_at_call 94; refine (CU.out _).mono ?_; rintro e w3 ⟨v3, rfl, hown3, hb3⟩; obtain ⟨va3, vc3, rfl, _⟩ := ownsRow_form hown3; have Hown3 := hid hown3; have Hb3 := hid hb3; clear hown3 hb3))
    have hs2 := Hb2.out.size
    have hs3 := Hb3.out.size
    have HX3 := hid ((HX1.out.later Hb2.out).later Hb3.out); have HZ3 := hid ((HZ1.out.later Hb2.out).later Hb3.out)
    have hW3 : Below w.heap.size w w3 := (HW1.out.trans (Hb2.out.mono HW1.out.size)).trans (Hb3.out.mono (by have := HW1.out.size; omega))
    have HIn := hid (show RpIn w3 ⟨id, kd, 0, [], EV, PX⟩ nilV (.slice va2 EV.length vc2) (.slice va3 PX.length vc3) [] from ⟨SgsAt.nil _, rfl, StrsAt.of_owns (Hown2.out.later Hb3.out), SlAt.of_owns (size := 0) Hown3.out HU32.out⟩)
    have HFar := hid (show RpFar (w.heap.size + 1) nilV (.slice va2 EV.length vc2) (.slice va3 PX.length vc3) [] from ⟨Far.nil _, Far.own Hown2.out (by omega), Far.own Hown3.out (by omega), fun d hd => by simp at hd⟩)
    have hc4 : w3.cell? ⟨w.heap.size, 4, none⟩ = some nilV := Blk.cell HX3.out 4
    have hc5 : w3.cell? ⟨w.heap.size, 5, none⟩ = some nilV := Blk.cell HX3.out 5
    have hf4 : w3.frozen? ⟨w.heap.size, 4, none⟩ = false := Blk.free HX3.out 4
    have hf5 : w3.frozen? ⟨w.heap.size, 5, none⟩ = false := Blk.free HX3.out 5
    have HW3 := hid hW3
    clear hW3
    go_upto_region 20 with fail
    refine wp_world (fun W => Blk W w.heap.size (rpC ⟨id, kd, 0, [], EV, PX⟩ nilV (.slice va2 EV.length vc2) (.slice va3 PX.length vc3)) 51 ∧ Blk W (w.heap.size + 1) rpZ 51 ∧ Below w.heap.size w W ∧ RpIn W ⟨id, kd, 0, [], EV, PX⟩ nilV (.slice va2 EV.length vc2) (.slice va3 PX.length vc3) []) ⟨(Blk.setCell HX3.out 4 _).setCell 5 _, Blk.setCell_ne (Blk.setCell_ne HZ3.out (by simp) _) (by simp) _, (HW3.out.setCell (Nat.le_refl _) _).setCell (Nat.le_refl _) _, (HIn.out.but (But.setCellW _ w.heap.size 4 _) HFar.out (by omega)).but (But.setCellW _ w.heap.size 5 _) HFar.out (by omega)⟩ ?_
    rintro w4 ⟨hX4, hZ4, hW4, hI4⟩
    have HX4 := hid hX4; have HZ4 := hid hZ4; have HW4 := hid hW4; have HI4 := hid hI4
    clear hX4 hZ4 hW4 hI4 hc4 hc5 hf4 hf5
    have Hsm := hid (show RpSmall ⟨id, kd, 0, [], EV, PX⟩ from ⟨by simp, by have := HEl.out.1; simp only; omega, fun t ht => by have := HEl.out.2 t ht; omega, HUs.out, by simp⟩)
    cases OK with
    | false =>
      go_wp2_with (first
        | ((with_reducible show wpList _ _ _ ({ dst := _, op := Op.load 51 _, type := _, pos := _, after := _, guard := _ } :: _) _ _); refine wpList_load_blk rfl 51 _ rfl w.heap.size rfl 51 (rpC ⟨id, kd, 0, [], EV, PX⟩ nilV (.slice va2 EV.length vc2) (.slice va3 PX.length vc3)) _ HX4.out Try.underlying51 rfl Try.sizeRp ?_)
        | ((with_reducible show wpList _ _ _ ({ dst := _, op := Op.store 51 _ _, type := _, pos := _, after := _, guard := _ } :: _) _ _); refine wpList_store_blk rfl 51 _ _ rfl (w.heap.size + 1) rfl (rpC ⟨id, kd, 0, [], EV, PX⟩ nilV (.slice va2 EV.length vc2) (.slice va3 PX.length vc3)) rfl rpZ 51 HZ4.out rfl Try.sizeRp (rpC_one _ _ _ _ rfl rfl rfl) ?_))
      exact bodyPost_ret (results_cell2 rfl _ (w.heap.size + 1) 51 (rpC ⟨id, kd, 0, [], EV, PX⟩ nilV (.slice va2 EV.length vc2) (.slice va3 PX.length vc3)) (0, 0) _ rfl (setRow_get (cs := rpC ⟨id, kd, 0, [], EV, PX⟩ nilV (.slice va2 EV.length vc2) (.slice va3 PX.length vc3)) HZ4.out) Try.underlying51 rfl Try.sizeRp) rfl
        (HMK.out w4 _ _ _ _ [] false _ rfl HI4.out HFar.out Hsm.out (fun h => by cases h) (fun _ => HB2.out.2.1 trivial) HW4.out)
    | true =>
      go_wp2_with (first
        | ((with_reducible show wpList _ _ _ ({ dst := _, op := Op.load 51 _, type := _, pos := _, after := _, guard := _ } :: _) _ _); refine wpList_load_blk rfl 51 _ rfl w.heap.size rfl 51 (rpC ⟨id, kd, 0, [], EV, PX⟩ nilV (.slice va2 EV.length vc2) (.slice va3 PX.length vc3)) _ HX4.out Try.underlying51 rfl Try.sizeRp ?_)
        | ((with_reducible show wpList _ _ _ ({ dst := _, op := Op.store 51 _ _, type := _, pos := _, after := _, guard := _ } :: _) _ _); refine wpList_store_blk rfl 51 _ _ rfl (w.heap.size + 1) rfl (rpC ⟨id, kd, 0, [], EV, PX⟩ nilV (.slice va2 EV.length vc2) (.slice va3 PX.length vc3)) rfl rpZ 51 HZ4.out rfl Try.sizeRp (rpC_one _ _ _ _ rfl rfl rfl) ?_))
      exact bodyPost_ret (results_cell2 rfl _ (w.heap.size + 1) 51 (rpC ⟨id, kd, 0, [], EV, PX⟩ nilV (.slice va2 EV.length vc2) (.slice va3 PX.length vc3)) (0, 0) _ rfl (setRow_get (cs := rpC ⟨id, kd, 0, [], EV, PX⟩ nilV (.slice va2 EV.length vc2) (.slice va3 PX.length vc3)) HZ4.out) Try.underlying51 rfl Try.sizeRp) rfl
        (HMK.out w4 _ _ _ _ [] PB _ rfl HI4.out HFar.out Hsm.out (fun h => HB2.out.1 trivial h) (fun h => HB2.out.2.2 h trivial) HW4.out)
  · have HB := hid (show refBody id kd s = if usB s then some ⟨id, kd, 0, [], [], usX s⟩ else none by subst hK; rfl)
    have e1 : ((kd : Int) == 1) = false := by simp; omega
    have e2 : ((kd : Int) == 2) = false := by simp; omega
    have e3 : ((kd : Int) == 3) = false := by simp; omega
    have e5 : ((kd : Int) == 5) = false := by simp; omega
    have e4 : ((kd : Int) == 4) = true := by simp; omega
    clear hK
    have CU := hid (fun w0 => runhashes_row s w0 (by omega))
    have HU32 := hid (us_32 s)
    have HUs := hid (us_small s)
    generalize usX s = PX at *
    generalize usR s = PR at *
    generalize usB s = PB at *
    go_upto_region 23 with (go_at_call 94; refine (CU.out _).mono ?_; rintro e w3 ⟨v3, rfl, hown3, hb3⟩; obtain ⟨va3, vc3, rfl, _⟩ := ownsRow_form hown3; have Hown3 := hid hown3; have Hb3 := hid hb3; clear hown3 hb3)
    have hs3 := Hb3.out.size
    have HX3 := hid (HX1.out.later Hb3.out); have HZ3 := hid (HZ1.out.later Hb3.out)
    have HW3 := hid (show Below w.heap.size w w3 from HW1.out.trans (Hb3.out.mono HW1.out.size))
    have HIn := hid (show RpIn w3 ⟨id, kd, 0, [], [], PX⟩ nilV nilV (.slice va3 PX.length vc3) [] from ⟨SgsAt.nil _, rfl, StrsAt.nil _, SlAt.of_owns (size := 0) Hown3.out HU32.out⟩)
    have HFar := hid (show RpFar (w.heap.size + 1) nilV nilV (.slice va3 PX.length vc3) [] from ⟨Far.nil _, Far.nil _, Far.own Hown3.out (by omega), fun d hd => by simp at hd⟩)
    have hc5 : w3.cell? ⟨w.heap.size, 5, none⟩ = some nilV := Blk.cell HX3.out 5
    have hf5 : w3.frozen? ⟨w.heap.size, 5, none⟩ = false := Blk.free HX3.out 5
    go_upto_region 24 with fail
    refine wp_world (fun W => Blk W w.heap.size (rpC ⟨id, kd, 0, [], [], PX⟩ nilV nilV (.slice va3 PX.length vc3)) 51 ∧ Blk W (w.heap.size + 1) rpZ 51 ∧ Below w.heap.size w W ∧ RpIn W ⟨id, kd, 0, [], [], PX⟩ nilV nilV (.slice va3 PX.length vc3) []) ⟨Blk.setCell HX3.out 5 _, Blk.setCell_ne HZ3.out (by simp) _, HW3.out.setCell (Nat.le_refl _) _, HIn.out.but (But.setCellW _ w.heap.size 5 _) HFar.out (by omega)⟩ ?_
    rintro w4 ⟨hX4, hZ4, hW4, hI4⟩
    have HX4 := hid hX4; have HZ4 := hid hZ4; have HW4 := hid hW4; have HI4 := hid hI4
    clear hX4 hZ4 hW4 hI4 hc5 hf5
    have Hsm := hid (show RpSmall ⟨id, kd, 0, [], [], PX⟩ from ⟨by simp, by simp, by simp, HUs.out, by simp⟩)
    go_wp2_with (first
      | ((with_reducible show wpList _ _ _ ({ dst := _, op := Op.load 51 _, type := _, pos := _, after := _, guard := _ } :: _) _ _); refine wpList_load_blk rfl 51 _ rfl w.heap.size rfl 51 (rpC ⟨id, kd, 0, [], [], PX⟩ nilV nilV (.slice va3 PX.length vc3)) _ HX4.out Try.underlying51 rfl Try.sizeRp ?_)
      | ((with_reducible show wpList _ _ _ ({ dst := _, op := Op.store 51 _ _, type := _, pos := _, after := _, guard := _ } :: _) _ _); refine wpList_store_blk rfl 51 _ _ rfl (w.heap.size + 1) rfl (rpC ⟨id, kd, 0, [], [], PX⟩ nilV nilV (.slice va3 PX.length vc3)) rfl rpZ 51 HZ4.out rfl Try.sizeRp (rpC_one _ _ _ _ rfl rfl rfl) ?_))
    exact bodyPost_ret (results_cell2 rfl _ (w.heap.size + 1) 51 (rpC ⟨id, kd, 0, [], [], PX⟩ nilV nilV (.slice va3 PX.length vc3)) (0, 0) _ rfl (setRow_get (cs := rpC ⟨id, kd, 0, [], [], PX⟩ nilV nilV (.slice va3 PX.length vc3)) HZ4.out) Try.underlying51 rfl Try.sizeRp) rfl
      (HMK.out w4 _ _ _ _ [] PB _ rfl HI4.out HFar.out Hsm.out (fun h => by rw [HB.out, h]; rfl) (fun h => by rw [HB.out, h]; rfl) HW4.out)
  · have HB := hid (show refBody id kd s = none by unfold refBody; rw [if_neg (by omega), if_neg (by omega), if_neg (by omega), if_neg (by omega), if_neg (by omega)])
    have e1 : ((kd : Int) == 1) = false := by simp; omega
    have e2 : ((kd : Int) == 2) = false := by simp; omega
    have e3 : ((kd : Int) == 3) = false := by simp; omega
    have e4 : ((kd : Int) == 4) = false := by simp; omega
    have e5 : ((kd : Int) == 5) = false := by simp; omega
    clear hK
    go_wp2_with (first
      | ((with_reducible show wpList _ _ _ ({ dst := _, op := Op.load 51 _, type := _, pos := _, after := _, guard := _ } :: _) _ _); refine wpList_load_blk rfl 51 _ rfl w.heap.size rfl 51 (rpC ⟨id, kd, 0, [], [], []⟩ nilV nilV nilV) _ HX1.out Try.underlying51 rfl Try.sizeRp ?_)
      | ((with_reducible show wpList _ _ _ ({ dst := _, op := Op.store 51 _ _, type := _, pos := _, after := _, guard := _ } :: _) _ _); refine wpList_store_blk rfl 51 _ _ rfl (w.heap.size + 1) rfl (rpC ⟨id, kd, 0, [], [], []⟩ nilV nilV nilV) rfl rpZ 51 HZ1.out rfl Try.sizeRp (rpC_one _ _ _ _ rfl rfl rfl) ?_))
    exact bodyPost_ret (results_cell2 rfl _ (w.heap.size + 1) 51 (rpC ⟨id, kd, 0, [], [], []⟩ nilV nilV nilV) (0, 0) _ rfl (setRow_get (cs := rpC ⟨id, kd, 0, [], [], []⟩ nilV nilV nilV) HZ1.out) Try.underlying51 rfl Try.sizeRp) rfl
      (HMK.out w1 ⟨id, kd, 0, [], [], []⟩ nilV nilV nilV [] false _ rfl (rpIn_nil _ _ _ _) ⟨Far.nil _, Far.nil _, Far.nil _, fun d hd => by simp at hd⟩ ⟨by simp, by simp, by simp, by simp, by simp only; omega⟩ (fun h => by cases h) (fun _ => HB.out) HW1.out)
end Go.Proofs.Ytjpnlnbpaecciaa
/- the document's GetReply -/
namespace Go.Proofs.Ytjpnlnbpaecciaa
open Go.RowKit Go.Spec
theorem getRp_is (l : List UInt8) : (∀ y, refRp l = some y → putRp y = some l → getRp l = some y) ∧ (refRp l = none → getRp l = none) ∧ (∀ y, refRp l = some y → putRp y ≠ some l → getRp l = none) := by
  refine ⟨fun y h1 h2 => ?_, fun h => ?_, fun y h1 h2 => ?_⟩
  · rw [getRp_put (refRp_ok h1).1 h2, (refRp_ok h1).2]
  · cases hg : getRp l with
    | none => rfl
    | some y => rw [(refRp_yes hg).1] at h; cases h
  · cases hg : getRp l with
    | none => rfl
    | some y' =>
      obtain ⟨h3, h4⟩ := refRp_yes hg
      rw [h3] at h1
      injection h1 with h1
      subst h1
      exact absurd h4 h2
theorem getRp_len {l : List UInt8} (h : ¬ (0 < l.length ∧ l.length ≤ 65536)) : getRp l = none := by
  cases hg : getRp l with
  | none => rfl
  | some y =>
    have := (getRp_back hg).2.2.2
    obtain ⟨s, hs⟩ := getRp_head hg
    rw [hs] at this h
    simp at h this
    omega
theorem refRp_def (l : List UInt8) : refRp l = if rdB (l.drop 1) && rdB (rdR (l.drop 1)) && decide (rdN (l.drop 1) ≤ 1073741824) && decide (rdN (rdR (l.drop 1)) ≤ 5) then refBody (rdN (l.drop 1)) (rdN (rdR (l.drop 1))) (rdR (rdR (l.drop 1))) else none := rfl
set_option maxHeartbeats 8000000 in
theorem rrpget_any (l : List UInt8) (w : World) (hl : l.length ≤ 1000000000) :
    Calls Try.prog 39 #[sv l] w fun e w' => RPA l e w w' := by
  have HNO := hid (fun e w' => @RPA.mk_no l e w w')
  have HMK := hid (fun e w' => @RPA.mk l e w w')
  have HI := hid (getRp_is l)
  have HZ0 := hid (Blk.new w rpZ 51)
  have hb0 := hid ((Below.refl _ w).alloc (Nat.le_refl _) (.cells rpZ 51))
  by_cases h0 : l.length = 0
  · obtain rfl : l = [] := List.eq_nil_of_length_eq_zero h0
    have E := hid (@getRp_len [] (by simp))
    clear HI HMK
    go_enter Try.func39, Try.ntmps39
    go_wp2_with ((with_reducible show wpList _ _ _ ({ dst := _, op := Op.store 51 _ _, type := _, pos := _, after := _, guard := _ } :: _) _ _); refine wpList_store_blk rfl 51 _ _ rfl w.heap.size rfl rpZ rfl rpZ 51 HZ0.out rfl Try.sizeRp rpZ_one ?_)
    exact bodyPost_ret (results_cell2 rfl _ w.heap.size 51 rpZ (0, 0) _ rfl (setRow_get (cs := rpZ) HZ0.out) Try.underlying51 rfl Try.sizeRp) rfl (HNO.out _ _ E.out rfl (hb0.out.setRow (Nat.le_refl _) _))
  have z0 : ((l.length : Int) == 0) = false := beq_eq_false_iff_ne.2 (by omega)
  by_cases h6 : 65536 < l.length
  · have d6 : decide ((65536 : Int) < (l.length : Int)) = true := decide_eq_true (by omega)
    have E := hid (@getRp_len l (by omega))
    clear HI HMK h0 h6
    go_enter Try.func39, Try.ntmps39
    go_wp2_with ((with_reducible show wpList _ _ _ ({ dst := _, op := Op.store 51 _ _, type := _, pos := _, after := _, guard := _ } :: _) _ _); refine wpList_store_blk rfl 51 _ _ rfl w.heap.size rfl rpZ rfl rpZ 51 HZ0.out rfl Try.sizeRp rpZ_one ?_)
    exact bodyPost_ret (results_cell2 rfl _ w.heap.size 51 rpZ (0, 0) _ rfl (setRow_get (cs := rpZ) HZ0.out) Try.underlying51 rfl Try.sizeRp) rfl (HNO.out _ _ E.out rfl (hb0.out.setRow (Nat.le_refl _) _))
  have d6 : decide ((65536 : Int) < (l.length : Int)) = false := decide_eq_false (by omega)
  have hl1 : 1 ≤ l.length := by omega
  have hD := refRp_def l
  rw [show l.drop 1 = l.tail by simp] at hD
  have HD := hid hD; clear hD
  have ht : l.tail.length ≤ 1000000000 := by simp; omega
  have C1 := hid (fun w0 => rread_gen l.tail w0 (by omega))
  have hr1 := rdR_le l.tail
  have hn1 := hid (rdN_lt l.tail)
  generalize refRp l = RR at *
  generalize rdN l.tail = id at *
  generalize rdR l.tail = A at *
  generalize rdB l.tail = B1 at *
  have C2 := hid (fun w0 => rread_gen A w0 (by omega))
  have hr2 := rdR_le A
  have hn2 := hid (rdN_lt A)
  generalize rdN A = kd at *
  generalize rdR A = Z at *
  generalize rdB A = B2 at *
  have hZl : Z.length ≤ 1000000000 := by omega
  clear h6 h0 ht hr1 hr2
  by_cases hg : B1 = true ∧ B2 = true ∧ id ≤ 1073741824 ∧ kd ≤ 5
  · obtain ⟨rfl, rfl, hi, hk⟩ := hg
    have d1 : decide ((1073741824 : Int) < (id : Int)) = false := decide_eq_false (by omega)
    have d2 : decide ((5 : Int) < (kd : Int)) = false := decide_eq_false (by omega)
    have HD2 := hid (show RR = refBody id kd Z by rw [HD.out, if_pos (by simp; omega)])
    have CR := hid (fun w0 => rreply_any id kd Z w0 hk hZl)
    clear HD
    go_enter Try.func39, Try.ntmps39
    go_upto_region 8 with (first
      | (go_at_call 73; (with_reducible refine (C1.out _).mono ?_); rintro e w2 ⟨rfl, hb2⟩; have Hb2 := hid hb2; clear hb2)
      | (go_at_call 73; (with_reducible refine (C2.out _).mono ?_); rintro e w3 ⟨rfl, hb3⟩; have Hb3 := hid hb3; clear hb3)
      | (go_at_call 86; refine (CR.out _).mono ?_; rintro e w4 ⟨⟨y, vh, ve, vp, ds, b, rfl, hin, hfar, hsm, hyes, hno⟩, hb4⟩; have Hfar := hid hfar; clear hfar; have Hb4 := hid hb4; have Hin := hid hin; have Hsm := hid hsm; have Hyes := hid hyes; have Hno := hid hno; have Hones := hid hin.ones; clear hb4 hin hsm hyes hno)
      | ((with_reducible show wpList _ _ _ ({ dst := _, op := Op.store _ _ _, type := _, pos := _, after := _, guard := _ } :: _) _ _); refine wpList_store_newA rfl 51 _ _ rfl rfl (rpC y vh ve vp) rfl _ 51 rfl Try.sizeRp (rpC_one _ _ _ _ Hones.out.1 Hones.out.2.1 Hones.out.2.2) ?_))
    have s2 := Hb2.out.size
    have s3 := Hb3.out.size
    have s4 := Hb4.out.size
    have hs2 : w.heap.size + 1 ≤ w2.heap.size := by simpa using s2
    have hZ4 := ((HZ0.out.later Hb2.out).later Hb3.out).later Hb4.out
    have hW4 : Below w.heap.size w w4 := ((hb0.out.trans (Hb2.out.mono (by simp))).trans (Hb3.out.mono (by omega))).trans (Hb4.out.mono (by omega))
    refine wp_world (fun W => Blk W w.heap.size rpZ 51 ∧ Blk W w4.heap.size (rpC y vh ve vp) 51 ∧ Below w.heap.size w W ∧ RpIn W y vh ve vp ds) ⟨hZ4.alloc _, Blk.new _ _ _, hW4.alloc hW4.size _, Hin.out.below ((Below.refl _ _).alloc (Nat.le_refl _) _)⟩ ?_
    rintro w5 ⟨hZ5, hX5, hW5, hI5⟩
    have HZ5 := hid hZ5; have HX5 := hid hX5; have HW5 := hid hW5
    have CP := hid (rrpput_any y vh ve vp ds w5 hI5 Hsm.out)
    have HI5 := hid hI5
    clear hZ5 hX5 hW5 hI5 s2 s3 s4 hs2 hZ4 hW4
    have hfl : w.heap.size < w4.heap.size := by
      have h2 := Hb2.out.size; have h3 := Hb3.out.size; have h4 := Hb4.out.size
      simp at h2
      omega
    cases b with
    | false =>
      have E := hid (HI.out.2.1 (by rw [HD2.out]; exact Hno.out rfl))
      clear HI HD2 Hyes Hno
      go_wp2_with (first
        | ((with_reducible show wpList _ _ _ ({ dst := _, op := Op.load 51 _, type := _, pos := _, after := _, guard := _ } :: _) _ _); refine wpList_load_blk rfl 51 _ rfl w4.heap.size rfl 51 (rpC y vh ve vp) _ HX5.out Try.underlying51 rfl Try.sizeRp ?_)
        | (go_at_call 27; refine (CP.out).mono ?_; rintro e w7 ⟨rfl, hb7⟩; have HZ7 := hid (HZ5.out.later hb7); cases hpr : putRp y <;> simp only [putR])
        | ((with_reducible show wpList _ _ _ ({ dst := _, op := Op.store 51 _ _, type := _, pos := _, after := _, guard := _ } :: _) _ _); refine wpList_store_blk rfl 51 _ _ rfl w.heap.size rfl rpZ rfl rpZ 51 HZ7.out rfl Try.sizeRp rpZ_one ?_))
      all_goals exact bodyPost_ret (results_cell2 rfl _ w.heap.size 51 rpZ (0, 0) _ rfl (setRow_get (cs := rpZ) HZ7.out) Try.underlying51 rfl Try.sizeRp) rfl (HNO.out _ _ E.out rfl ((HW5.out.trans (hb7.mono HW5.out.size)).setRow (Nat.le_refl _) _))
    | true =>
      have HRy := hid (show RR = some y by rw [HD2.out]; exact Hyes.out rfl)
      clear HD2 Hyes Hno
      cases hpr : putRp y with
      | none =>
        have E := hid (HI.out.2.2 y HRy.out (by rw [hpr]; simp))
        rw [hpr] at CP
        clear HI hpr
        go_wp2_with (first
          | ((with_reducible show wpList _ _ _ ({ dst := _, op := Op.load 51 _, type := _, pos := _, after := _, guard := _ } :: _) _ _); refine wpList_load_blk rfl 51 _ rfl w4.heap.size rfl 51 (rpC y vh ve vp) _ HX5.out Try.underlying51 rfl Try.sizeRp ?_)
          | (go_at_call 27; refine (CP.out).mono ?_; rintro e w7 ⟨rfl, hb7⟩; have HZ7 := hid (HZ5.out.later hb7); simp only [putR])
          | ((with_reducible show wpList _ _ _ ({ dst := _, op := Op.store 51 _ _, type := _, pos := _, after := _, guard := _ } :: _) _ _); refine wpList_store_blk rfl 51 _ _ rfl w.heap.size rfl rpZ rfl rpZ 51 HZ7.out rfl Try.sizeRp rpZ_one ?_))
        exact bodyPost_ret (results_cell2 rfl _ w.heap.size 51 rpZ (0, 0) _ rfl (setRow_get (cs := rpZ) HZ7.out) Try.underlying51 rfl Try.sizeRp) rfl (HNO.out _ _ E.out rfl ((HW5.out.trans (hb7.mono HW5.out.size)).setRow (Nat.le_refl _) _))
      | some t =>
        rw [hpr] at CP
        by_cases ht : t = l
        · subst ht
          have E := hid (HI.out.1 y HRy.out hpr)
          have q : (t == t) = true := by simp
          clear HI hpr
          have Hf2 := hid (Hfar.out.mono (B' := w.heap.size) (by
            have h2 := Hb2.out.size; have h3 := Hb3.out.size
            simp at h2
            omega))
          go_wp2_with (first
            | ((with_reducible show wpList _ _ _ ({ dst := _, op := Op.load 51 _, type := _, pos := _, after := _, guard := _ } :: _) _ _); refine wpList_load_blk rfl 51 _ rfl w4.heap.size rfl 51 (rpC y vh ve vp) _ HX5.out Try.underlying51 rfl Try.sizeRp ?_)
            | (go_at_call 27; refine (CP.out).mono ?_; rintro e w7 ⟨rfl, hb7⟩; have HZ7 := hid (HZ5.out.later hb7); have HX5 := hid (HX5.out.later hb7); simp only [putR])
            | ((with_reducible show wpList _ _ _ ({ dst := _, op := Op.store 51 _ _, type := _, pos := _, after := _, guard := _ } :: _) _ _); refine wpList_store_blk rfl 51 _ _ rfl w.heap.size rfl (rpC y vh ve vp) rfl rpZ 51 HZ7.out rfl Try.sizeRp (rpC_one _ _ _ _ Hones.out.1 Hones.out.2.1 Hones.out.2.2) ?_))
          exact bodyPost_ret (results_cell2 rfl _ w.heap.size 51 (rpC y vh ve vp) (0, 0) _ rfl (setRow_get (cs := rpC y vh ve vp) HZ7.out) Try.underlying51 rfl Try.sizeRp) rfl
            (HMK.out _ _ (fun h => by rw [E.out] at h; cases h) (fun y' h' => by rw [E.out] at h'; injection h' with h'; subst h'; exact ⟨vh, ve, vp, ds, rfl, (HI5.out.below hb7).but (But.own _ w.heap.size _) Hf2.out (Nat.le_refl _)⟩) ((HW5.out.trans (hb7.mono HW5.out.size)).setRow (Nat.le_refl _) _))
        · have E := hid (HI.out.2.2 y HRy.out (by rw [hpr]; simpa using ht))
          have q : (t == l) = false := by simpa using ht
          clear HI hpr ht
          go_wp2_with (first
            | ((with_reducible show wpList _ _ _ ({ dst := _, op := Op.load 51 _, type := _, pos := _, after := _, guard := _ } :: _) _ _); refine wpList_load_blk rfl 51 _ rfl w4.heap.size rfl 51 (rpC y vh ve vp) _ HX5.out Try.underlying51 rfl Try.sizeRp ?_)
            | (go_at_call 27; refine (CP.out).mono ?_; rintro e w7 ⟨rfl, hb7⟩; have HZ7 := hid (HZ5.out.later hb7); simp only [putR])
            | ((with_reducible show wpList _ _ _ ({ dst := _, op := Op.store 51 _ _, type := _, pos := _, after := _, guard := _ } :: _) _ _); refine wpList_store_blk rfl 51 _ _ rfl w.heap.size rfl rpZ rfl rpZ 51 HZ7.out rfl Try.sizeRp rpZ_one ?_))
          exact bodyPost_ret (results_cell2 rfl _ w.heap.size 51 rpZ (0, 0) _ rfl (setRow_get (cs := rpZ) HZ7.out) Try.underlying51 rfl Try.sizeRp) rfl (HNO.out _ _ E.out rfl ((HW5.out.trans (hb7.mono HW5.out.size)).setRow (Nat.le_refl _) _))
  · have E := hid (HI.out.2.1 (by rw [HD.out, if_neg (by simpa [and_assoc] using hg)]))
    clear HD HI HMK
    cases B1 with
    | false =>
      go_enter Try.func39, Try.ntmps39
      go_wp2_with (first
        | (go_at_call 73; (with_reducible refine (C1.out _).mono ?_); rintro e w2 ⟨rfl, hb2⟩; have Hb2 := hid hb2; clear hb2)
        | (go_at_call 73; (with_reducible refine (C2.out _).mono ?_); rintro e w3 ⟨rfl, hb3⟩; have Hb3 := hid hb3; have HZ3 := hid ((HZ0.out.later Hb2.out).later Hb3.out); clear hb3)
        | ((with_reducible show wpList _ _ _ ({ dst := _, op := Op.store 51 _ _, type := _, pos := _, after := _, guard := _ } :: _) _ _); refine wpList_store_blk rfl 51 _ _ rfl w.heap.size rfl rpZ rfl rpZ 51 HZ3.out rfl Try.sizeRp rpZ_one ?_))
      have hW3 : Below w.heap.size w w3 := (hb0.out.trans (Hb2.out.mono (by simp))).trans (Hb3.out.mono (by have := Hb2.out.size; simp at this; omega))
      exact bodyPost_ret (results_cell2 rfl _ w.heap.size 51 rpZ (0, 0) _ rfl (setRow_get (cs := rpZ) HZ3.out) Try.underlying51 rfl Try.sizeRp) rfl (HNO.out _ _ E.out rfl (hW3.setRow (Nat.le_refl _) _))
    | true =>
    cases B2 with
    | false =>
      go_enter Try.func39, Try.ntmps39
      go_wp2_with (first
        | (go_at_call 73; (with_reducible refine (C1.out _).mono ?_); rintro e w2 ⟨rfl, hb2⟩; have Hb2 := hid hb2; clear hb2)
        | (go_at_call 73; (with_reducible refine (C2.out _).mono ?_); rintro e w3 ⟨rfl, hb3⟩; have Hb3 := hid hb3; have HZ3 := hid ((HZ0.out.later Hb2.out).later Hb3.out); clear hb3)
        | ((with_reducible show wpList _ _ _ ({ dst := _, op := Op.store 51 _ _, type := _, pos := _, after := _, guard := _ } :: _) _ _); refine wpList_store_blk rfl 51 _ _ rfl w.heap.size rfl rpZ rfl rpZ 51 HZ3.out rfl Try.sizeRp rpZ_one ?_))
      have hW3 : Below w.heap.size w w3 := (hb0.out.trans (Hb2.out.mono (by simp))).trans (Hb3.out.mono (by have := Hb2.out.size; simp at this; omega))
      exact bodyPost_ret (results_cell2 rfl _ w.heap.size 51 rpZ (0, 0) _ rfl (setRow_get (cs := rpZ) HZ3.out) Try.underlying51 rfl Try.sizeRp) rfl (HNO.out _ _ E.out rfl (hW3.setRow (Nat.le_refl _) _))
    | true =>
    by_cases hi : id ≤ 1073741824
    · have d1 : decide ((1073741824 : Int) < (id : Int)) = false := decide_eq_false (by omega)
      have d2 : decide ((5 : Int) < (kd : Int)) = true := decide_eq_true (by have : ¬ kd ≤ 5 := fun h => hg ⟨rfl, rfl, hi, h⟩; omega)
      clear hg
      go_enter Try.func39, Try.ntmps39
      go_wp2_with (first
        | (go_at_call 73; (with_reducible refine (C1.out _).mono ?_); rintro e w2 ⟨rfl, hb2⟩; have Hb2 := hid hb2; clear hb2)
        | (go_at_call 73; (with_reducible refine (C2.out _).mono ?_); rintro e w3 ⟨rfl, hb3⟩; have Hb3 := hid hb3; have HZ3 := hid ((HZ0.out.later Hb2.out).later Hb3.out); clear hb3)
        | ((with_reducible show wpList _ _ _ ({ dst := _, op := Op.store 51 _ _, type := _, pos := _, after := _, guard := _ } :: _) _ _); refine wpList_store_blk rfl 51 _ _ rfl w.heap.size rfl rpZ rfl rpZ 51 HZ3.out rfl Try.sizeRp rpZ_one ?_))
      have hW3 : Below w.heap.size w w3 := (hb0.out.trans (Hb2.out.mono (by simp))).trans (Hb3.out.mono (by have := Hb2.out.size; simp at this; omega))
      exact bodyPost_ret (results_cell2 rfl _ w.heap.size 51 rpZ (0, 0) _ rfl (setRow_get (cs := rpZ) HZ3.out) Try.underlying51 rfl Try.sizeRp) rfl (HNO.out _ _ E.out rfl (hW3.setRow (Nat.le_refl _) _))
    · have d1 : decide ((1073741824 : Int) < (id : Int)) = true := decide_eq_true (by omega)
      clear hg hi
      go_enter Try.func39, Try.ntmps39
      go_wp2_with (first
        | (go_at_call 73; (with_reducible refine (C1.out _).mono ?_); rintro e w2 ⟨rfl, hb2⟩; have Hb2 := hid hb2; clear hb2)
        | (go_at_call 73; (with_reducible refine (C2.out _).mono ?_); rintro e w3 ⟨rfl, hb3⟩; have Hb3 := hid hb3; have HZ3 := hid ((HZ0.out.later Hb2.out).later Hb3.out); clear hb3)
        | ((with_reducible show wpList _ _ _ ({ dst := _, op := Op.store 51 _ _, type := _, pos := _, after := _, guard := _ } :: _) _ _); refine wpList_store_blk rfl 51 _ _ rfl w.heap.size rfl rpZ rfl rpZ 51 HZ3.out rfl Try.sizeRp rpZ_one ?_))
      have hW3 : Below w.heap.size w w3 := (hb0.out.trans (Hb2.out.mono (by simp))).trans (Hb3.out.mono (by have := Hb2.out.size; simp at this; omega))
      exact bodyPost_ret (results_cell2 rfl _ w.heap.size 51 rpZ (0, 0) _ rfl (setRow_get (cs := rpZ) HZ3.out) Try.underlying51 rfl Try.sizeRp) rfl (HNO.out _ _ E.out rfl (hW3.setRow (Nat.le_refl _) _))
end Go.Proofs.Ytjpnlnbpaecciaa
