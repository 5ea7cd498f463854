/- GossipAll -/
import Derived.Test.YtjpnlnbpaecciaaSignedO
import Derived.Test.YtjpnlnbpaecciaaGAllLaw
import Derived.Test.YtjpnlnbpaecciaaMissingO
import Derived.Test.YtjpnlnbpaecciaaTalked
import Derived.Test.YtjpnlnbpaecciaaGGetLaw
set_option maxRecDepth 100000
namespace Go.Proofs.Ytjpnlnbpaecciaa
open Go.RowKit Go.Spec
set_option maxHeartbeats 16000000 in
theorem gossipAll_law (v : Value) (rs : List Rg) (W : World) (hv : RgsAt W v rs) (hl : rs.length ≤ 9223372036854775807) :
    Calls Try.prog 5 #[v] W fun e w' => e = .returned (.bool true) ∧ Below W.heap.size W w' := by
  obtain ⟨i0, hi, hz0, hz1, hz2⟩ := info_parts Try.infoHead
  have CS := hid (fun w0 (h : RgsAt w0 v rs) => signedO_any v rs 10 w0 h hl (by decide))
  have Hv := hid hv
  clear hv
  cases hok : signedOk rs 10 with
  | false =>
    have Hok := hid hok; clear hok
    go_enter Try.func5, Try.ntmps5
    go_wp2_with (first
      | (go_at_call 12; refine (CS.out _ Hv.out).mono ?_; rintro e w1 ⟨hno, hyes, hb1⟩; obtain rfl := hno Hok.out; clear hno hyes)
      | (go_at_call 13; refine (talked_any _).mono ?_; rintro e w2 ⟨rfl, hb2⟩))
    go_ret
    exact ⟨rfl, bth hb1 hb2⟩
  | true =>
  have Hok := hid hok; clear hok
  go_enter Try.func5, Try.ntmps5
  go_upto_region 6 with (go_at_call 12; refine (CS.out _ Hv.out).mono ?_; rintro e w1 ⟨hno, hyes, hb1⟩; obtain ⟨x, ds, rfl, hs1⟩ := hyes Hok.out; clear hno hyes)
  obtain ⟨xa, xcap, rfl, hxc⟩ := ownsRow_form hs1.own
  have Hs := hid hs1; clear hs1
  have hdl := Hs.out.le
  have hn10 : ds.length ≤ 10 := by omega
  generalize hnn : ds.length = n at *
  have Hnn := hid hnn; clear hnn
  go_loopw [5, 6] (fun m i wr => ∃ (k : Nat) (E : List Sg), i = .int .i64 k ∧ k ≤ n ∧ E.length = n ∧ m = .int .i64 (((E.take k).filter Sg.valid).length : Nat) ∧ (∀ j (h : j < E.length), j < k → E[j].z = (j : Int)) ∧ (∀ d ∈ E, d.In W ∧ d.sig.length ≤ 16511 ∧ d.path.length ≤ 40) ∧ wr.ownsRow W.heap.size 41 36 (.slice xa n xcap) n (sgF E) ∧ Below W.heap.size W wr)
    (fun _ i _ => n - (intOf i).toNat)
  case atStart => exact ⟨0, ds, rfl, by omega, Hnn.out, by simp, fun j _ h => by omega, Hs.out.ok, by have := Hs.out.own; rwa [Hnn.out] at this, hb1⟩
  case round =>
    obtain ⟨k, E, rfl, hk, hEl, rfl, hix, hok, hown, hb⟩ := hrel
    have Hix := hid hix; have Hok2 := hid hok; have Hown := hid hown; have HEl := hid hEl
    clear hix hok hown hEl
    obtain ⟨q, hq⟩ : ∃ q, ((E.take k).filter Sg.valid).length = q := ⟨_, rfl⟩
    have hq10 : q ≤ 10 := by
      have h1 := List.length_filter_le Sg.valid (E.take k)
      rw [List.length_take] at h1
      omega
    rw [hq]
    have Hq := hid hq; clear hq
    by_cases hlt : k < n
    · have hk64 : (k : Int) < (n : Int) := by omega
      have hkE : k < E.length := by rw [HEl.out]; exact hlt
      obtain ⟨g, cap', hxa, hgb, hgl, _, hcells⟩ := ownsRow_some Hown.out (by omega)
      injection hxa with hxa _ hxc2
      subst hxa; subst hxc2
      have hd := (Hok2.out E[k] (List.getElem_mem hkE))
      have Hset := hid (sgF_set E (fun d hd => (Hok2.out d hd).1.r32) k (k : Int) hkE)
      have hown2 := ownsRow_setCell Hown.out (k * 36) (by omega) (.int .i64 (k : Int))
      rw [Hset.out] at hown2
      have c1 : wr.cell? ⟨g, k * 36, none⟩ = some (.int .i64 E[k].z) := by
        have := own_get Hown.out (fun d hd => (Hok2.out d hd).1.r32) hkE 0 (.int .i64 E[k].z) rfl
        rwa [Addr.add_lit] at this
      have f1 : wr.frozen? ⟨g, k * 36, none⟩ = false := ownsRow_free Hown.out _
      have HE' := hid (show (E.set k (E[k].sized k)).length = n by rw [List.length_set]; exact HEl.out)
      have hgk : (E.set k (E[k].sized k))[k]'(by rw [HE'.out]; exact hlt) = E[k].sized k := by simp
      go_upto_region 9 with fail
      have hb9 : Below W.heap.size W (wr.setCell ⟨g, k * 36, none⟩ (.int .i64 (k : Int))) := hb.setCell hgb _
      show Code.wp _ _ _ _ (wr.setCell ⟨g, k * 36, none⟩ (.int .i64 (k : Int)))
      generalize wr.setCell ⟨g, k * 36, none⟩ (.int .i64 (k : Int)) = wE at *
      have Hok3 := hid (show ∀ d ∈ E.set k (E[k].sized k), d.In W ∧ d.sig.length ≤ 16511 ∧ d.path.length ≤ 40 from fun d hd => by
        rcases List.mem_or_eq_of_mem_set hd with h | rfl
        · exact Hok2.out d h
        · exact ⟨(Hok2.out _ (List.getElem_mem hkE)).1.sized _, (Hok2.out _ (List.getElem_mem hkE)).2⟩)
      have Hcell := hid (own_get hown2 (fun d hd => (Hok3.out d hd).1.r32) (by rw [HE'.out]; exact hlt))
      rw [hgk] at Hcell
      have Htk := hid (take_set_next E k (E[k].sized k) hkE)
      have Hix3 := hid (show ∀ j (h : j < (E.set k (E[k].sized k)).length), j < k + 1 → (E.set k (E[k].sized k))[j].z = (j : Int) from fun j h hj => by
        rcases Nat.lt_or_ge j k with h1 | h1
        · rw [List.getElem_set_ne (by omega)]
          exact Hix.out j (by rw [List.length_set] at h; exact h) h1
        · obtain rfl : j = k := by omega
          rw [List.getElem_set_self]; rfl)
      have hr := hd.1.r32
      generalize hE' : E.set k (E[k].sized k) = E' at *
      generalize hdd : E[k].sized (k : Int) = d at *
      have hr : d.root.length = 32 := by rw [← hdd]; exact hr
      have V := hid (fun w0 => valid_any d.z d.i d.root d.sig d.a d.path.length d.cap w0 hr)
      have Hsz := hid (show (Try.prog.info? 41).map (·.size) = some (sgA d.z d.root d.i d.sig d.p).size by rw [sgA_size hr]; exact Try.sizeSigned)
      have Hown2 := hid hown2
      have HB9 := hid hb9
      clear hown2 hb9 hgk hd c1 f1 hcells
      cases hvd : d.valid with
      | true =>
        rw [show validB d.z d.i d.sig d.path.length = true from hvd] at V
        have Hvd := hid hvd; clear hvd
        go_wp2_with (first
          | ((with_reducible show wpList _ _ _ ({ dst := _, op := Op.load 41 _, type := _, pos := _, after := _, guard := none } :: _) _ _); refine wpList_load_cs rfl 41 _ rfl ⟨g, k * 36, none⟩ rfl (sgA d.z d.root d.i d.sig d.p) _ Hcell.out Try.underlying41 rfl Hsz.out ?_)
          | (go_at_call 21; refine (V.out _).mono ?_; rintro e w4 ⟨rfl, hb4⟩))
        go_roundw
        case rel =>
          refine ⟨k + 1, E', by go_num, by omega, HE'.out, ?_, Hix3.out, Hok3.out, ownsRow_fr Hown2.out (Fr.of_below hb4 (fun _ => False)) (fun _ _ h => h), bth HB9.out hb4⟩
          rw [Htk.out, List.filter_append, List.length_append, Hq.out, List.filter_cons_of_pos Hvd.out]
          simp
        case measure => simp [intOf]; omega
      | false =>
        rw [show validB d.z d.i d.sig d.path.length = false from hvd] at V
        have Hvd := hid hvd; clear hvd
        go_wp2_with (first
          | ((with_reducible show wpList _ _ _ ({ dst := _, op := Op.load 41 _, type := _, pos := _, after := _, guard := none } :: _) _ _); refine wpList_load_cs rfl 41 _ rfl ⟨g, k * 36, none⟩ rfl (sgA d.z d.root d.i d.sig d.p) _ Hcell.out Try.underlying41 rfl Hsz.out ?_)
          | (go_at_call 21; refine (V.out _).mono ?_; rintro e w4 ⟨rfl, hb4⟩))
        go_roundw
        case rel =>
          refine ⟨k + 1, E', by go_num, by omega, HE'.out, ?_, Hix3.out, Hok3.out, ownsRow_fr Hown2.out (Fr.of_below hb4 (fun _ => False)) (fun _ _ h => h), bth HB9.out hb4⟩
          rw [Htk.out, List.filter_append, List.length_append, Hq.out, List.filter_cons_of_neg (by rw [Hvd.out]; simp)]
          simp
        case measure => simp [intOf]; omega
    · have hke : k = n := by omega
      subst hke
      have hEt : E.take k = E := by rw [← HEl.out]; exact List.take_length
      rw [hEt] at Hq
      have HIx := hid (show Ix E from fun j h => Hix.out j h (by rw [← HEl.out]; exact h))
      have hown := Hown.out
      rw [← HEl.out] at hown
      have HX := hid (SgsAt.of_owns hown (fun d hd => ((Hok2.out d hd).1).below hb))
      clear hown hEt
      generalize hV : E.filter Sg.valid = V at *
      have HV := hid hV; clear hV
      obtain ⟨wE, hwE⟩ : ∃ wE, wE = wr := ⟨_, rfl⟩
      subst hwE
      have HBE := hid hb; clear hb
      obtain ⟨T, hT⟩ : ∃ T, (q + 2) / 3 = T := ⟨_, rfl⟩
      have hq1 : ((q : Int) + 3 - 1).tdiv 3 = (T : Int) := by rw [Int.tdiv_eq_ediv_of_nonneg (by omega)]; omega
      have hT5 : T ≤ 4 := by omega
      have HT := hid hT; clear hT
      have HHs := hid (show ∀ d ∈ V, d.root.length = 32 from fun d hd => by
        rw [← HV.out] at hd
        exact (Hok2.out d (List.mem_filter.1 hd).1).1.r32)
      go_upto_region 13 with fail
      go_loopw [7, 8] (fun o i wr => ∃ t : Nat, i = .int .i64 t ∧ t ≤ T ∧ wr.ownsRow wE.heap.size 36 33 o (min (3 * t) q) (hdF ((V.take (3 * t)).map Sg.hd)) ∧ Below wE.heap.size wE wr)
        (fun _ i _ => T - (intOf i).toNat)
      case atStart => exact ⟨0, rfl, by omega, by simpa [hdF] using World.ownsRow_nil _ _ _ _, Below.refl _ _⟩
      case round =>
        obtain ⟨t, rfl, ht, hown, hbx⟩ := hrel
        obtain ⟨N, hN⟩ : ∃ N, min (3 * t) q = N := ⟨_, rfl⟩
        rw [hN] at hown
        obtain ⟨oa, ocap, rfl, hoc⟩ := ownsRow_form hown
        have hNl : ((V.take (3 * t)).map Sg.hd).length = N := by rw [List.length_map, List.length_take, Hq.out]; exact hN
        have hks := hown
        rw [← hNl] at hks
        have HK := hid (HdsAt.of_owns hks (fun d hd => by
          obtain ⟨y, hy, rfl⟩ := List.mem_map.1 hd
          exact HHs.out y (List.mem_of_mem_take hy)))
        rw [hNl] at HK
        have HX2 := hid (HX.out.below hbx)
        have Hown3 := hid hown; have HN := hid hN
        have hN10 : N ≤ 10 := by omega
        clear hks hown hNl hN
        have hEl10 : E.length ≤ 10 := by rw [HEl.out]; omega
        have MM := hid (missingO_any _ _ E ((V.take (3 * t)).map Sg.hd) wr HX2.out HK.out (by omega) (by rw [List.length_map, List.length_take]; omega) (fun d hd => by have := (Hok2.out d hd).2.2; omega))
        have HM := hid (show missL E ((V.take (3 * t)).map Sg.hd) = (V.drop (3 * t)).take 3 by rw [← HV.out]; exact missL_at HIx.out (3 * t))
        rw [HEl.out] at MM
        by_cases htT : t < T
        · have h3t : 3 * t < q := by have := HT.out; omega
          have hN3 : N = 3 * t := by have := HN.out; omega
          have hVl : V.length = q := Hq.out
          obtain ⟨O, hO⟩ : ∃ O, (V.drop (3 * t)).take 3 = O := ⟨_, rfl⟩
          have hOl : O.length = min 3 (q - 3 * t) := by rw [← hO, List.length_take, List.length_drop, hVl]
          have hOV : ∀ d ∈ O, d ∈ V := fun d hd => by
            rw [← hO] at hd
            exact List.mem_of_mem_drop (List.mem_of_mem_take hd)
          have hput : ∃ sO, putGL O = some sO := by
            refine ⟨71 :: (numL O.length ++ (O.map sgT).flatten), ?_⟩
            rw [putGL, if_neg (by omega), if_pos (by
              rw [List.all_eq_true]
              intro d hd
              have := hOV d hd
              rw [← HV.out] at this
              exact (List.mem_filter.1 this).2)]
          obtain ⟨sO, hsO⟩ := hput
          rw [hO] at HM
          obtain ⟨L3, hL3⟩ : ∃ L3, O.length = L3 := ⟨_, rfl⟩
          have HO := hid hO; have HL3 := hid hL3; have HOV := hid hOV; have HsO := hid hsO
          have hL3' : L3 = min 3 (q - 3 * t) := by omega
          have htT' : decide (t < T) = true := decide_eq_true htT
          have PO := hid (fun w0 v0 (out : List Sg) (h : SgsAt w0 v0 out) (hk : out.map Sg.k = O.map Sg.k) => (show Calls Try.prog 14 #[v0] w0 fun e w' => e = .returned (.tuple #[sv sO, .int .i64 0]) ∧ Below w0.heap.size w0 w' from by
            have hl : out.length = O.length := by simpa using congrArg List.length hk
            have := gput_any v0 out w0 h (by omega)
            rw [putGL_k, hk, ← putGL_k, hsO] at this
            exact this))
          have HN3 := hid hN3; have HL3b := hid hL3'; have H3t := hid h3t; have HtT := hid htT
          clear hO hL3 hOV hsO hOl hVl hN3 hL3' h3t
          go_upto_region 17 with (first
            | (go_at_call 19; refine MM.out.mono ?_; rintro e w5 ⟨⟨v5, out, rfl, hat, hmk, ho5⟩, hb5⟩; have Hat := hid hat; have Hmk := hid hmk; have Ho5 := hid ho5; clear hat hmk ho5)
            | (go_at_call 14; refine (PO.out _ _ out Hat.out (by rw [Hmk.out, HM.out])).mono ?_; rintro e w6 ⟨rfl, hb6⟩))
          obtain ⟨va, vcap, rfl, _⟩ := Hat.out.form
          have hlen : out.length = O.length := by simpa using congrArg List.length (show out.map Sg.k = O.map Sg.k by rw [Hmk.out, HM.out])
          rw [HL3.out] at hlen
          generalize hlo : out.length = lo at *
          have Hlo := hid hlo; have Hlen := hid hlen
          have hlo3 : lo ≤ 3 := by have := HL3b.out; omega
          have hdm : (if (q : Int) - (N : Int) < 3 then (q : Int) - (N : Int) else 3) = (lo : Int) := by
            have h1 := HL3b.out; have h2 := HN3.out; have h3 := H3t.out
            split <;> omega
          have hll : ((lo : Int) != (lo : Int)) = false := by simp
          clear hlo hlen
          go_upto_region 20 with fail
          all_goals
            have ho5 := Ho5.out
            have Hin6 := hid (show ∀ d ∈ out, d.root.length = 32 from fun d hd => (Hat.out.ok d hd).r32)
            have Ho6 := hid (ownsRow_fr ho5 (Fr.of_below hb6 (fun _ => False)) (fun _ _ h => h))
            have HbW6 := hid (bth (bth hbx hb5) hb6)
            have Hown6 := hid (ownsRow_fr Hown3.out (Fr.of_below (bth hb5 hb6) (fun _ => False)) (fun _ _ h => h))
            have Hsep := hid (show ∀ b, (Value.slice va lo vcap).ownBlock = some b → (Value.slice oa N ocap).ownBlock ≠ some b from fun b h1 h2 => by
              have e1 := (Ho6.out.lt b h1).1
              have e2 := (Hown3.out.lt b h2).2
              omega)
            clear hb5 hb6 hbx ho5
            go_loopw [7, 12] (fun o i wr => ∃ (m : Nat), i = .int .i64 m ∧ m ≤ lo ∧ wr.ownsRow wE.heap.size 36 33 o (N + m) (hdF ((V.take (3 * t) ++ O.take m).map Sg.hd)) ∧ (∃ B, wr.ownsRow B 41 36 (.slice va lo vcap) lo (sgF out)) ∧ (∀ b, (Value.slice va lo vcap).ownBlock = some b → o.ownBlock ≠ some b) ∧ Below wE.heap.size wE wr)
              (fun _ i _ => lo - (intOf i).toNat)
            case atStart => exact ⟨0, rfl, by omega, by simpa using Hown6.out, ⟨_, Ho6.out⟩, Hsep.out, HbW6.out⟩
            case round =>
              obtain ⟨m, rfl, hm, hown, ⟨B, hout⟩, hsep, hby⟩ := hrel
              obtain ⟨ob, obcap, rfl, hobc⟩ := ownsRow_form hown
              generalize hLL : (V.take (3 * t) ++ O.take m).map Sg.hd = LL at *
              have HLL := hid hLL; clear hLL
              have Hown7 := hid hown; have Hout := hid hout; have Hsep2 := hid hsep
              clear hown hout hsep
              have hwy : wE.heap.size ≤ wr.heap.size := hby.size
              by_cases hlt : m < lo
              · have hm64 : (m : Int) < (lo : Int) := by omega
                have hmo : m < out.length := by rw [Hlo.out]; exact hlt
                have hmO : m < O.length := by rw [HL3.out, ← Hlen.out]; exact hlt
                have hr := Hin6.out out[m] (List.getElem_mem hmo)
                have hkk : out[m].k = O[m].k := by
                  have h1 : out.map Sg.k = O.map Sg.k := by rw [Hmk.out, HM.out]
                  have h2 := congrArg (fun l => l[m]?) h1
                  simpa [hmo, hmO] using h2
                have HhdO := hid (show out[m].hd = O[m].hd by
                  simp only [Sg.k, Prod.mk.injEq] at hkk
                  simp only [Sg.hd, hkk.1, hkk.2.1])
                have Htk := hid (show O.take (m + 1) = O.take m ++ [O[m]] from List.take_succ_eq_append_getElem hmO)
                obtain ⟨g5, cap5, hv5, _, _, _, _⟩ := ownsRow_some Hout.out (by omega)
                injection hv5 with hv5 _ hv6
                subst hv5; subst hv6
                have hcell := own_get Hout.out Hin6.out hmo
                generalize out[m] = d at *
                have Hc := hid (fun j u (h : (hdA d.z d.root).toList[j]? = some u) => hcell j u (hd_sg h))
                have Hsz := hid (show (Try.prog.info? 36).map (·.size) = some (hdA d.z d.root).size by rw [hdA_size hr]; exact Try.sizeHead)
                clear hcell hkk
                go_wp2_with (first
                  | ((with_reducible show wpList _ _ _ ({ dst := _, op := Op.load 36 _, type := _, pos := _, after := _, guard := none } :: _) _ _); refine wpList_load_cs rfl 36 _ rfl ⟨g5, m * 36, none⟩ rfl (hdA d.z d.root) _ Hc.out Try.underlying36 rfl Hsz.out ?_)
                  | ((with_reducible show wpList _ _ _ ({ dst := _, op := Op.buildSlice 23 _ _, type := _, pos := _, after := _, guard := _ } :: _) _ _); refine wpList_buildSlice_one rfl 23 36 _ rfl 33 (.agg (hdA 0 zero32)) (.agg (hdA d.z d.root)) (hdA d.z d.root) rfl Try.underlying23 Try.infoHead2 rfl (hdA_size hr) (by decide) (by decide) ?_)
                  | (at_builtin; go_must (refine wpList_app rfl _ _ 23 rfl wE.heap.size 36 i0 (.agg (hdA 0 zero32)) 33 40 Try.underlying23 hi hz0 hz1 hz2 rfl (by decide) _ (N + m) (hdF LL) rfl ?c1 ⟨wr.heap.size, 0, none⟩ 1 1 (hdA d.z d.root).toList rfl ?c2 ?c3 ?c4 ?c5 ?c6 ?c7 ?_)))
                case c1 => exact Hown7.out.alloc _
                case c4 => exact fun u hu => hdA_one u (by simpa using hu)
                case c5 => unfold maxLen; omega
                case c6 => omega
                case c7 => omega
                intro v9 w8 hown' hgrow hat9
                have HB8 := hid ((hby.alloc hwy _).grown hgrow (by simp; omega) (fun q hq => (Hown7.out.lt q hq).1))
                have HownN := hid (show w8.ownsRow wE.heap.size 36 33 v9 (N + (m + 1)) (hdF ((V.take (3 * t) ++ O.take (m + 1)).map Sg.hd)) by
                  rw [Htk.out, ← List.append_assoc, List.map_append, HLL.out, List.map_cons, List.map_nil, hdF_snoc, ← HhdO.out]
                  exact hown')
                have Hout8 := hid (ownsRow_fr (Hout.out.alloc (.cells (hdA d.z d.root) 36)) (S := fun k => (Value.slice ob (N + m) obcap).ownBlock = some k) ⟨hgrow.os, hgrow.tape, hgrow.output, hgrow.size, fun k hk hn => hgrow.block k hk (fun h => hn h.symm)⟩ (fun k hk => Hsep2.out k hk))
                have Hsep8 := hid (show ∀ b, (Value.slice (some ⟨g5, 0, none⟩) lo vcap).ownBlock = some b → v9.ownBlock ≠ some b from fun b h1 h2 => by
                  rcases hat9 b h2 with h | h
                  · exact Hsep2.out b h1 h
                  · have := (Hout.out.lt b h1).2
                    try simp at h
                    omega)
                clear hown' hgrow hat9
                go_wp2
                go_roundw
                case rel => exact ⟨m + 1, by go_num, by omega, HownN.out, ⟨_, Hout8.out⟩, Hsep8.out, HB8.out⟩
                case measure => simp [intOf]; omega
              · have hme : m = lo := by omega
                subst hme
                have HVt := hid (show V.take (3 * t) ++ O.take m = V.take (3 * (t + 1)) by
                  have h1 : O.take m = O := by rw [Hlen.out, ← HL3.out]; exact List.take_length
                  rw [h1, ← HO.out, show 3 * (t + 1) = 3 * t + 3 by omega, List.take_add])
                have HNm := hid (show N + m = min (3 * (t + 1)) q by
                  have h1 := HN3.out; have h2 := HL3b.out; have h3 := Hlen.out; have h4 := H3t.out
                  omega)
                go_wp2
                go_roundw
                case rel =>
                  refine ⟨t + 1, by go_num, by have := HtT.out; omega, ?_, hby⟩
                  rw [← HNm.out, ← HVt.out, HLL.out]
                  exact Hown7.out
                case measure => have := HtT.out; simp [intOf]; omega
        · have htT' : decide (t < T) = false := decide_eq_false htT
          have hte : q ≤ 3 * t := by have := HT.out; omega
          have hNq : N = q := by have := HN.out; omega
          have hml : missL E ((V.take (3 * t)).map Sg.hd) = [] := by
            rw [HM.out, List.drop_eq_nil_of_le (by rw [Hq.out]; exact hte)]; rfl
          have Hml := hid hml
          obtain rfl : N = q := hNq
          have HtT := hid htT
          clear hte hml
          go_wp2_with fail
          refine MM.out.mono ?_
          rintro e w5 ⟨⟨v5, out, rfl, hat, hmk, ho5⟩, hb5⟩
          have hnil : out = [] := by (rw [Hml.out] at hmk; simpa using hmk)
          subst hnil
          obtain ⟨va, vcap, rfl, _⟩ := hat.form
          have hln : ((List.length ([] : List Sg) : Nat) : Int) = 0 := rfl
          go_wp2_with (go_at_call 13; refine (talked_any _).mono ?_; rintro e w6 ⟨rfl, hb6⟩)
          go_ret
          exact ⟨rfl, HBE.out.trans ((bth (bth hbx hb5) hb6).mono HBE.out.size)⟩
end Go.Proofs.Ytjpnlnbpaecciaa
