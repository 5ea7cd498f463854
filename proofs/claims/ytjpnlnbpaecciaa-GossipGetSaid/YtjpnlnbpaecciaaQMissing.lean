/- gossip.Missing -/
import Derived.Test.YtjpnlnbpaecciaaQCloneH
import Derived.Test.YtjpnlnbpaecciaaQIndex
import Derived.Test.YtjpnlnbpaecciaaQSigned

set_option maxRecDepth 100000
namespace Go.Spec
open Go.RowKit
variable {P : Program} {w : World}
/-- a whole struct, out of any row, guarded or not -/
theorem wpList_load_csG {ops : Array Oper} {rest : List Oper} {o : Oper} {a : Act} {Q : Exit → Act → World → Prop} (hw : Region.wanted o (yielded ops a.tmps) = true) (ty : TypeId) (x : Operand) (ho : o.op = .load ty x)
    (ad : Addr) (hx : a.eval x = .pointer (some ad)) (cs : Array Value) (d : TypeDesc) (hc : ∀ j v, cs.toList[j]? = some v → w.cell? (ad.add j) = some v)
    (hu : P.underlying ty = some d) (hd : (match d with | .struct _ | .array _ _ => true | _ => false) = true) (hi : (P.info? ty).map (·.size) = some cs.size)
    (h : wpList P ops Q rest (a.put o.dst (.agg cs)) w) : wpList P ops Q (o :: rest) a w :=
  wpList_want hw fun _ hK => by
    have hr := run_loadVar_agg (P := P) (w := w) ty ad cs.toList d hc hu hd (by simpa using hi)
    rw [Array.toArray_toList] at hr
    unfold Oper.wp execOp
    simp only [ho, hx, Instr.loadAt, Instr.sureAddr, Sem.run_bind, Sem.run_pure, Result.andThen_ok, hr]
    exact hK _ _ h
theorem sgA_set35 {z i : Int} {root sig : List UInt8} {p p' : Value} (h : root.length = 32) : (sgA z root i sig p).setIfInBounds 35 p' = sgA z root i sig p' := by
  apply Array.toList_inj.1
  simp [sgA, List.set_append, h]
end Go.Spec
namespace Go.Proofs.Ytjpnlnbpaecciaa
open Go.RowKit Go.Spec
def wantB (ks : List Hd) (d : Sg) : Bool := d.valid && !decide ((d.z, d.root) ∈ ks.map Hd.k)
def missL (ds : List Sg) (ks : List Hd) : List Sg := (ds.filter (wantB ks)).take 3
theorem missL_snoc (ds : List Sg) (ks : List Hd) (d : Sg) : missL (ds ++ [d]) ks = if (missL ds ks).length < 3 ∧ wantB ks d = true then missL ds ks ++ [d] else missL ds ks := by
  unfold missL
  rw [List.filter_append]
  by_cases hd : wantB ks d = true
  · rw [List.filter_cons_of_pos hd, List.filter_nil]
    by_cases hl : (ds.filter (wantB ks)).length < 3
    · rw [if_pos ⟨by rw [List.length_take]; omega, hd⟩, List.take_of_length_le (by simp; omega), List.take_of_length_le (by omega)]
    · rw [if_neg (by rw [List.length_take]; omega), List.take_append_of_le_length (by omega)]
  · rw [List.filter_cons_of_neg hd, List.filter_nil, List.append_nil, if_neg (fun h => hd h.2)]
/-- what Missing answers -/
structure MA (ds : List Sg) (ks : List Hd) (e : Ending) (w w' : World) : Prop where
  out : ∃ v out, e = .returned v ∧ SgsAt w' v out ∧ out.map Sg.k = (missL ds ks).map Sg.k
  below : Below w.heap.size w w'
set_option maxHeartbeats 4000000 in
theorem missing_any (v u : Value) (ds : List Sg) (ks : List Hd) (w : World) (hv : SgsAt w v ds) (hu : HdsAt w u ks) (hn : ds.length ≤ 1000000) (hn2 : ks.length ≤ 1000000) (hpl : ∀ d ∈ ds, d.path.length ≤ 1000000) :
    Calls Try.prog 19 #[v, u] w fun e w' => MA ds ks e w w' := by
  obtain ⟨i0, hi, hz0, hz1, hz2⟩ := info_parts Try.infoSigned
  obtain ⟨a, cap, rfl, hcap⟩ := hv.form
  have Hv := hid hv; have Hu := hid hu; have Hpl := hid hpl
  clear hv hu hpl
  go_enter Try.func19, Try.ntmps19
  go_upto_region 3 with fail
  go_loopw [5, 10] (fun o i wr => ∃ (k : Nat) (out : List Sg), i = .int .i64 k ∧ k ≤ ds.length ∧ out.length ≤ 3 ∧ out.map Sg.k = (missL (ds.take k) ks).map Sg.k ∧ wr.ownsRow w.heap.size 41 36 o out.length (sgF out) ∧ (∀ d ∈ out, d.In wr ∧ Apart o d) ∧ Below w.heap.size w wr)
    (fun _ i _ => ds.length - (intOf i).toNat)
  case atStart => exact ⟨0, [], rfl, by omega, by simp, by simp [missL], World.ownsRow_nil _ _ _ _, fun _ h => by simp at h, Below.refl _ _⟩
  case round =>
    obtain ⟨k, out, rfl, hk, hol, hmk, hown, hok, hb⟩ := hrel
    obtain ⟨oa, ocap, rfl, hoc⟩ := ownsRow_form hown
    have Hok := hid hok; clear hok
    have Hmk := hid hmk; clear hmk
    have Hown := hid hown; clear hown
    by_cases hlt : k < ds.length
    · have hdk := (Hv.out.ok ds[k] (List.getElem_mem hlt)).below hb
      have Hpk := hid (Hpl.out ds[k] (List.getElem_mem hlt))
      obtain ⟨b, o, rfl, hbl, hcell⟩ := (Hv.out.below hb).get hlt
      have htk := hid (show ds.take (k + 1) = ds.take k ++ [ds[k]] from List.take_succ_eq_append_getElem hlt)
      have Hms := hid (missL_snoc (ds.take k) ks ds[k])
      have Hml := hid (show (missL (ds.take k) ks).length = out.length by have := congrArg List.length Hmk.out; simpa using this.symm)
      generalize ds[k] = d at *
      have hr := hdk.r32
      have Hin := hid hdk
      have Hsz := hid (show (Try.prog.info? 41).map (·.size) = some (sgA d.z d.root d.i d.sig d.p).size by rw [sgA_size hr]; exact Try.sizeSigned)
      have Hsz2 := hid (sgA_size (z := d.z) (i := d.i) (sig := d.sig) (p := d.p) hr)
      have Hc := hid hcell; clear hcell hdk
      have hk64 : (k : Int) < (ds.length : Int) := by omega
      by_cases h3 : out.length < 3
      · have d3 : decide ((out.length : Int) < 3) = true := decide_eq_true (by omega)
        have V := hid (fun w0 => valid_any d.z d.i d.root d.sig d.a d.path.length d.cap w0 hr)
        have HB0 := hid (Blk.new wr (sgA d.z d.root d.i d.sig d.p) 41)
        have HW0 := hid (hb.alloc hb.size (.cells (sgA d.z d.root d.i d.sig d.p) 41))
        cases hvd : d.valid with
        | false =>
          rw [show validB d.z d.i d.sig d.path.length = false from hvd] at V
          have Hw := hid (show wantB ks d = false by simp [wantB, hvd])
          clear hvd
          go_wp2_with (first
            | ((with_reducible show wpList _ _ _ ({ dst := _, op := Op.load 41 _, type := _, pos := _, after := _, guard := none } :: _) _ _); refine wpList_load_cs rfl 41 _ rfl ⟨b, o + k * 36, none⟩ rfl _ _ Hc.out Try.underlying41 rfl Hsz.out ?_)
            | ((with_reducible show wpList _ _ _ ({ dst := _, op := Op.store _ _ _, type := _, pos := _, after := _, guard := _ } :: _) _ _); refine wpList_store_newA rfl 41 _ _ rfl rfl (sgA d.z d.root d.i d.sig d.p) rfl _ 41 (by rw [Hsz2.out]; rfl) Hsz.out (sgA_one rfl) ?_)
            | ((with_reducible show wpList _ _ _ ({ dst := _, op := Op.load 41 _, type := _, pos := _, after := _, guard := some (3, true) } :: _) _ _); refine wpList_load_csG rfl 41 _ rfl ⟨wr.heap.size, 0, none⟩ rfl (sgA d.z d.root d.i d.sig d.p) _ HB0.out.cells Try.underlying41 rfl Hsz.out ?_)
            | (go_at_call 21; refine (V.out _).mono ?_; rintro e w4 ⟨rfl, hb4⟩; have HB4 := hid (HB0.out.later hb4))
          )
          go_roundw
          case rel =>
            refine ⟨k + 1, out, by go_num, by omega, hol, ?_, (ownsRow_fr (Hown.out.alloc _) (Fr.of_below hb4 (fun _ => False)) (fun _ _ h => h)), fun d hd => ⟨((Hok.out d hd).1.below ((Below.refl _ _).alloc (Nat.le_refl _) _)).below hb4, (Hok.out d hd).2⟩, bth HW0.out hb4⟩
            rw [htk.out, Hms.out, if_neg (by rw [Hw.out]; simp)]; exact Hmk.out
          case measure => simp [intOf]; omega
        | true =>
          rw [show validB d.z d.i d.sig d.path.length = true from hvd] at V
          have Hsh := hid (show (Try.prog.info? 36).map (·.size) = some (hdA d.z d.root).size by rw [hdA_size hr]; exact Try.sizeHead)
          have CC := hid (fun w0 (h : HdsAt w0 u ks) => contains_any u ks d.z d.root w0 h hr (by omega))
          by_cases hin : (d.z, d.root) ∈ ks.map Hd.k
          · rw [decide_eq_true hin] at CC
            have Hw := hid (show wantB ks d = false by simp only [wantB, hvd, decide_eq_true hin]; rfl)
            clear hvd hin
            go_wp2_with (first
              | ((with_reducible show wpList _ _ _ ({ dst := _, op := Op.load 41 _, type := _, pos := _, after := _, guard := none } :: _) _ _); refine wpList_load_cs rfl 41 _ rfl ⟨b, o + k * 36, none⟩ rfl _ _ Hc.out Try.underlying41 rfl Hsz.out ?_)
              | ((with_reducible show wpList _ _ _ ({ dst := _, op := Op.store _ _ _, type := _, pos := _, after := _, guard := _ } :: _) _ _); refine wpList_store_newA rfl 41 _ _ rfl rfl (sgA d.z d.root d.i d.sig d.p) rfl _ 41 (by rw [Hsz2.out]; rfl) Hsz.out (sgA_one rfl) ?_)
              | ((with_reducible show wpList _ _ _ ({ dst := _, op := Op.load 41 _, type := _, pos := _, after := _, guard := some (3, true) } :: _) _ _); refine wpList_load_csG rfl 41 _ rfl ⟨wr.heap.size, 0, none⟩ rfl (sgA d.z d.root d.i d.sig d.p) _ HB0.out.cells Try.underlying41 rfl Hsz.out ?_)
              | (go_at_call 21; refine (V.out _).mono ?_; rintro e w4 ⟨rfl, hb4⟩; have HB4 := hid (HB0.out.later hb4))
              | ((with_reducible show wpList _ _ _ ({ dst := _, op := Op.load 36 _, type := _, pos := _, after := _, guard := some (7, true) } :: _) _ _); refine wpList_load_csG rfl 36 _ rfl ⟨wr.heap.size, 0, none⟩ rfl (hdA d.z d.root) _ HB4.out.sgHead Try.underlying36 rfl Hsh.out ?_)
              | (go_at_call 55; refine (CC.out _ (Hu.out.below (bth HW0.out hb4))).mono ?_; rintro e w5 ⟨rfl, hb5⟩))
            go_roundw
            case rel =>
              refine ⟨k + 1, out, by go_num, by omega, hol, ?_, (ownsRow_fr (Hown.out.alloc _) (Fr.of_below (bth hb4 hb5) (fun _ => False)) (fun _ _ h => h)), fun d hd => ⟨((Hok.out d hd).1.below ((Below.refl _ _).alloc (Nat.le_refl _) _)).below (bth hb4 hb5), (Hok.out d hd).2⟩, bth HW0.out (bth hb4 hb5)⟩
              rw [htk.out, Hms.out, if_neg (by rw [Hw.out]; simp)]; exact Hmk.out
            case measure => simp [intOf]; omega
          · rw [decide_eq_false hin] at CC
            have Hw := hid (show wantB ks d = true by simp only [wantB, hvd, decide_eq_false hin]; rfl)
            clear hvd hin
            go_upto_region 6 with (first
              | ((with_reducible show wpList _ _ _ ({ dst := _, op := Op.load 41 _, type := _, pos := _, after := _, guard := none } :: _) _ _); refine wpList_load_cs rfl 41 _ rfl ⟨b, o + k * 36, none⟩ rfl _ _ Hc.out Try.underlying41 rfl Hsz.out ?_)
              | ((with_reducible show wpList _ _ _ ({ dst := _, op := Op.store _ _ _, type := _, pos := _, after := _, guard := _ } :: _) _ _); refine wpList_store_newA rfl 41 _ _ rfl rfl (sgA d.z d.root d.i d.sig d.p) rfl _ 41 (by rw [Hsz2.out]; rfl) Hsz.out (sgA_one rfl) ?_)
              | ((with_reducible show wpList _ _ _ ({ dst := _, op := Op.load 41 _, type := _, pos := _, after := _, guard := some (3, true) } :: _) _ _); refine wpList_load_csG rfl 41 _ rfl ⟨wr.heap.size, 0, none⟩ rfl (sgA d.z d.root d.i d.sig d.p) _ HB0.out.cells Try.underlying41 rfl Hsz.out ?_)
              | (go_at_call 21; refine (V.out _).mono ?_; rintro e w4 ⟨rfl, hb4⟩; have HB4 := hid (HB0.out.later hb4))
              | ((with_reducible show wpList _ _ _ ({ dst := _, op := Op.load 36 _, type := _, pos := _, after := _, guard := some (7, true) } :: _) _ _); refine wpList_load_csG rfl 36 _ rfl ⟨wr.heap.size, 0, none⟩ rfl (hdA d.z d.root) _ HB4.out.sgHead Try.underlying36 rfl Hsh.out ?_)
              | (go_at_call 55; refine (CC.out _ (Hu.out.below (bth HW0.out hb4))).mono ?_; rintro e w5 ⟨rfl, hb5⟩))
            have HB5 := hid (HB4.out.later hb5)
            have HW5 := hid (bth HW0.out (bth hb4 hb5))
            have Hr5 := hid (bth ((Below.refl wr.heap.size wr).alloc (Nat.le_refl _) (.cells (sgA d.z d.root d.i d.sig d.p) 41)) (bth hb4 hb5))
            have c5 : w5.cell? ⟨wr.heap.size, 35, none⟩ = some (.slice d.a d.path.length d.cap) := HB5.out.sg35 hr
            have hg5 : wr.heap.size < w5.heap.size := HB5.out.lt
            clear hb4 hb5 HB4
            have CL := hid (clone_any d.a d.cap d.path w5 ((Hin.out.at_.below Hr5.out (Nat.le_refl _))) Hpk.out)
            have Hl32 := hid Hin.out.at_.len32
            generalize hgs : wr.heap.size = gs at *
            have Hgs := hid hgs
            go_upto_region 7 with (first
              | (go_at_call 56; refine CL.out.mono ?_; rintro e w6 ⟨⟨pa, pcap, rfl, hown6⟩, hb6⟩; have HB6 := hid (HB5.out.later hb6); have c6 : w6.cell? ⟨gs, 35, none⟩ = some (.slice d.a d.path.length d.cap) := HB6.out.sg35 hr; have f6 : w6.frozen? ⟨gs, 35, none⟩ = false := HB6.out.free 35; have Hown6 := hid hown6; clear hown6))
            show Code.wp _ _ _ _ (w6.setCell ⟨gs, 35, none⟩ (.slice pa d.path.length pcap))
            have hb7 : Below gs wr (w6.setCell ⟨gs, 35, none⟩ (.slice pa d.path.length pcap)) := (Hr5.out.trans (hb6.mono (by omega))).setCell (Nat.le_refl _) _
            have HB7 := hid (show Blk (w6.setCell ⟨gs, 35, none⟩ (.slice pa d.path.length pcap)) gs (sgA d.z d.root d.i d.sig (.slice pa d.path.length pcap)) 41 by
              have h := HB6.out.setCell 35 (.slice pa d.path.length pcap)
              rwa [sgA_set35 hr] at h)
            have Hp7 := hid (show SlAt (w6.setCell ⟨gs, 35, none⟩ (.slice pa d.path.length pcap)) 32 (.slice pa d.path.length pcap) (hcs d.path) from
              SlAt.of_owns (size := 32) (ownsRow_fr Hown6.out (Fr.setCell w6 gs 35 _) (fun k hk => by have := (Hown6.out.lt k hk).1; omega)) Hl32.out)
            have hs7 : (w6.setCell ⟨gs, 35, none⟩ (.slice pa d.path.length pcap)).heap.size = w6.heap.size := by simp [World.setCell]
            have hs6 := hb6.size
            generalize w6.setCell ⟨gs, 35, none⟩ (.slice pa d.path.length pcap) = w7 at *
            have HB7w := hid hb7
            have HW7 := hid (show Below w.heap.size w w7 from hb.trans (hb7.mono (by have := hb.size; omega)))
            have Hown7 := hid (ownsRow_fr Hown.out (Fr.of_below (by rw [Hgs.out]; exact hb7) (fun _ => False)) (fun _ _ h => h))
            have hsz7 : w.heap.size ≤ w7.heap.size := HW7.out.size
            have HszN := hid (show (Try.prog.info? 41).map (·.size) = some (sgA d.z d.root d.i d.sig (.slice pa d.path.length pcap)).size by rw [sgA_size hr]; exact Try.sizeSigned)
            clear hb7 c5 c6 f6 hb6 HB6 HB5
            go_wp2_with (first
              | ((with_reducible show wpList _ _ _ ({ dst := _, op := Op.load 41 _, type := _, pos := _, after := _, guard := none } :: _) _ _); refine wpList_load_blk rfl 41 _ rfl gs rfl 41 (sgA d.z d.root d.i d.sig (.slice pa d.path.length pcap)) _ HB7.out Try.underlying41 rfl HszN.out ?_)
              | (refine wpList_buildSlice_one rfl 24 41 _ rfl 36 (.agg (sgA 0 zero32 0 [] (.slice none 0 0))) (.agg (sgA d.z d.root d.i d.sig (.slice pa d.path.length pcap))) (sgA d.z d.root d.i d.sig (.slice pa d.path.length pcap)) rfl Try.underlying24 Try.infoSigned2 rfl (sgA_size hr) (by decide) (by decide) ?_)
              | (at_builtin; go_must (refine wpList_app rfl _ _ 24 rfl w.heap.size 41 i0 (.agg (sgA 0 zero32 0 [] (.slice none 0 0))) 36 88 Try.underlying24 hi hz0 hz1 hz2 rfl (by decide) _ out.length (sgF out) rfl ?c1 ⟨w7.heap.size, 0, none⟩ 1 1 (sgA d.z d.root d.i d.sig (.slice pa d.path.length pcap)).toList rfl ?c2 ?c3 ?c4 ?c5 ?c6 ?c7 ?_)))
            case c1 => exact Hown7.out.alloc _
            case c2 => rw [Array.length_toList, sgA_size hr]
            case c3 => exact fun j u hj => row_alloc (w := w7) j u hj
            case c4 => exact sgA_one rfl
            case c5 => unfold maxLen; omega
            case c6 => omega
            case c7 => simp; omega
            intro v' w8 hown' hgrow hat
            have hb8 : Below w.heap.size w7 w8 := ((Below.refl w.heap.size w7).alloc hsz7 _).grown hgrow (by simp; omega) (fun q hq => (Hown7.out.lt q hq).1)
            have HB8 := hid (HW7.out.trans hb8)
            have hlt6 := (Hown.out.lt)
            have Hnew := hid (sgs_grow (w := w7) (d := ⟨d.z, d.root, d.i, d.sig, d.path, pa, pcap⟩) (fun x hx => ⟨(Hok.out x hx).1.below (by rw [Hgs.out]; exact HB7w.out), (Hok.out x hx).2⟩)
              ⟨⟨hr, Hp7.out, Hin.out.sl, Hin.out.pl⟩, fun ad had hp hk => by
                have h1 := (hlt6 ad.block hk).2
                have h2 : (Value.slice pa d.path.length pcap).ownBlock = some ad.block := by
                  rw [show pa = some ad from had]
                  rcases Hown6.out.2 with ⟨h, _⟩ | ⟨g, cap', cur, h, _⟩
                  · rw [show pa = some ad from had] at h; cases h
                  · rw [show pa = some ad from had] at h; injection h with h; injection h with h; subst h; rfl
                have h3 := (Hown6.out.lt ad.block h2).1
                have := Hgs.out
                omega⟩ hgrow (v' := v') (fun k hk => by simpa [hs7] using hat k hk))
            have HownN := hid (show w8.ownsRow w.heap.size 41 36 v' (out.length + 1) (sgF (out ++ [⟨d.z, d.root, d.i, d.sig, d.path, pa, pcap⟩])) by rw [sgF_snoc]; exact hown')
            clear hown' hgrow hat hb8 hlt6
            go_wp2
            go_roundw
            case rel =>
              refine ⟨k + 1, out ++ [⟨d.z, d.root, d.i, d.sig, d.path, pa, pcap⟩], by go_num, by omega, by rw [List.length_append]; simp; omega, ?_, ?_, Hnew.out, HB8.out⟩
              · rw [htk.out, Hms.out, if_pos ⟨by rw [Hml.out]; omega, Hw.out⟩, List.map_append, List.map_append, Hmk.out]; rfl
              · rw [List.length_append]; exact HownN.out
            case measure => simp [intOf]; omega
      · have d3 : decide ((out.length : Int) < 3) = false := decide_eq_false (by omega)
        go_wp2_with (first
          | ((with_reducible show wpList _ _ _ ({ dst := _, op := Op.load 41 _, type := _, pos := _, after := _, guard := none } :: _) _ _); refine wpList_load_cs rfl 41 _ rfl ⟨b, o + k * 36, none⟩ rfl _ _ Hc.out Try.underlying41 rfl Hsz.out ?_)
          | ((with_reducible show wpList _ _ _ ({ dst := _, op := Op.store _ _ _, type := _, pos := _, after := _, guard := _ } :: _) _ _); refine wpList_store_newA rfl 41 _ _ rfl rfl (sgA d.z d.root d.i d.sig d.p) rfl _ 41 (by rw [Hsz2.out]; rfl) Hsz.out (sgA_one rfl) ?_))
        go_roundw
        case rel =>
          refine ⟨k + 1, out, by go_num, by omega, hol, ?_, Hown.out.alloc _, fun d hd => ⟨(Hok.out d hd).1.below ((Below.refl _ _).alloc (Nat.le_refl _) _), (Hok.out d hd).2⟩, hb.alloc hb.size _⟩
          rw [htk.out, Hms.out, if_neg (by rw [Hml.out]; omega)]; exact Hmk.out
        case measure => simp [intOf]; omega
    · have hke : k = ds.length := by omega
      subst hke
      have HX := hid (SgsAt.of_owns Hown.out (fun d hd => (Hok.out d hd).1))
      go_wp2
      go_ret
      refine ⟨⟨_, out, rfl, HX.out, ?_⟩, hb⟩
      have := Hmk.out
      rwa [List.take_length] at this
end Go.Proofs.Ytjpnlnbpaecciaa
