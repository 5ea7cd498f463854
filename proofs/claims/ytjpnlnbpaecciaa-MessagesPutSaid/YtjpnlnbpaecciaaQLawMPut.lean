/- MessagesPut -/
import Derived.Test.YtjpnlnbpaecciaaQGreat
import Derived.Test.YtjpnlnbpaecciaaQMsgSame
import Derived.Test.YtjpnlnbpaecciaaQMsgSigned

set_option maxRecDepth 100000
namespace Go.Proofs.Ytjpnlnbpaecciaa
open Go.RowKit Go.Spec
theorem putR_uni (o : Option (List UInt8)) : putR o = .tuple #[sv (o.getD []), .int .i64 (if o.isSome then 0 else 2)] := by cases o <;> rfl
theorem Try.sizeRp6 : (Try.prog.info? 51).map (·.size) = some 6 := by kernel_rfl
set_option maxHeartbeats 16000000 in
theorem messagesPut_law (r : Rq) (a b : RpK) (ah ae ap bh be bp : Value) (ds es : List Sg) (w : World) (hr : r.I64) (ha : RpRaw w a ah ae ap ds) (hac : a.code < 9223372036854775808) (hb : RpRaw w b bh be bp es) (hbc : b.code < 9223372036854775808) :
    Calls Try.prog 6 #[r.v, .agg (rpC a ah ae ap), .agg (rpC b bh be bp)] w fun e w' => e = .returned (.bool true) ∧ Below w.heap.size w w' := by
  have HA := hid ha; have HB := hid hb; have HR := hid hr
  have Hac := hid hac; have Hbc := hid hbc
  clear ha hb hr hac hbc
  go_enter Try.func6, Try.ntmps6
  go_upto_region 1 with fail
  refine wp_world (fun W => Blk W w.heap.size r.cs 48 ∧ Blk W (w.heap.size + 1) (rpC a ah ae ap) 51 ∧ Blk W (w.heap.size + 2) (rpC b bh be bp) 51 ∧ Below w.heap.size w W)
    ⟨((Blk.new _ _ _).alloc _).alloc _, (Blk.new' _ _ _ (by simp)).alloc _, Blk.new' _ _ _ (by simp), (((Below.refl _ w).alloc (Nat.le_refl _) _).alloc (by simp) _).alloc (by simp; omega) _⟩ ?_
  rintro w0 ⟨h1, h2, h3, hb0⟩
  have H1 := hid h1; have H2 := hid h2; have H3 := hid h3; have Hb0 := hid hb0
  have HA0 := hid (HA.out.below hb0); have HB0 := hid (HB.out.below hb0)
  clear h1 h2 h3 hb0 HA HB
  have G1 := hid (fun q : Later w0 => great17_det a ah ae ap ds (lat q) (HA0.out.below (lat_below q)))
  have G2 := hid (fun q : Later w0 => great17_det b bh be bp es (lat q) (HB0.out.below (lat_below q)))
  have Hla := hid (greatOf_iff a ds).1
  have Hlb := hid (greatOf_iff b es).1
  generalize greatOf a ds = GA at *
  generalize greatOf b es = GB at *
  cases GA with
  | true =>
    clear Hla Hlb
    refine wp_region_seq_later ?_
    repeat (first
      | (refine wpQuiet_load_aggG rfl 51 _ rfl ⟨w.heap.size + 1, 0, none⟩ rfl (rpC a ah ae ap) _ (by rintro _ ⟨q, rfl⟩; exact (H2.out.later (lat_below q)).cells) Try.underlying51 rfl Try.sizeRp6 ?_; simp only [Act.put, List.setIfInBounds_toArray, List.set_cons_succ, List.set_cons_zero])
      | (refine wpQuiet_load_aggG rfl 51 _ rfl ⟨w.heap.size + 2, 0, none⟩ rfl (rpC b bh be bp) _ (by rintro _ ⟨q, rfl⟩; exact (H3.out.later (lat_below q)).cells) Try.underlying51 rfl Try.sizeRp6 ?_; simp only [Act.put, List.setIfInBounds_toArray, List.set_cons_succ, List.set_cons_zero])
      | go_big_quiet_step ((first | (go_at_call 22; with_reducible exact calls_later (G1.out _)) | (go_at_call 22; with_reducible exact calls_later (G2.out _)))))
    refine wpQuiet_nil ?_
    rintro _ ⟨q1, rfl⟩
    have hb1 := lat_below q1
    generalize lat q1 = w1 at *
    go_wp2_with (go_at_call 23; refine (spoken_any _).mono ?_; rintro e w9 ⟨rfl, hb9⟩)
    go_ret
    exact ⟨rfl, bth (Hb0.out.trans (hb1.mono Hb0.out.size)) hb9⟩
  | false =>
  cases GB with
  | true =>
    clear Hla Hlb
    refine wp_region_seq_later ?_
    repeat (first
      | (refine wpQuiet_load_aggG rfl 51 _ rfl ⟨w.heap.size + 1, 0, none⟩ rfl (rpC a ah ae ap) _ (by rintro _ ⟨q, rfl⟩; exact (H2.out.later (lat_below q)).cells) Try.underlying51 rfl Try.sizeRp6 ?_; simp only [Act.put, List.setIfInBounds_toArray, List.set_cons_succ, List.set_cons_zero])
      | (refine wpQuiet_load_aggG rfl 51 _ rfl ⟨w.heap.size + 2, 0, none⟩ rfl (rpC b bh be bp) _ (by rintro _ ⟨q, rfl⟩; exact (H3.out.later (lat_below q)).cells) Try.underlying51 rfl Try.sizeRp6 ?_; simp only [Act.put, List.setIfInBounds_toArray, List.set_cons_succ, List.set_cons_zero])
      | go_big_quiet_step ((first | (go_at_call 22; with_reducible exact calls_later (G1.out _)) | (go_at_call 22; with_reducible exact calls_later (G2.out _)))))
    refine wpQuiet_nil ?_
    rintro _ ⟨q1, rfl⟩
    have hb1 := lat_below q1
    generalize lat q1 = w1 at *
    go_wp2_with (go_at_call 23; refine (spoken_any _).mono ?_; rintro e w9 ⟨rfl, hb9⟩)
    go_ret
    exact ⟨rfl, bth (Hb0.out.trans (hb1.mono Hb0.out.size)) hb9⟩
  | false =>
  have LA := hid (Hla.out rfl); have LB := hid (Hlb.out rfl)
  clear Hla Hlb
  refine wp_region_seq_later ?_
  repeat (first
    | (refine wpQuiet_load_aggG rfl 51 _ rfl ⟨w.heap.size + 1, 0, none⟩ rfl (rpC a ah ae ap) _ (by rintro _ ⟨q, rfl⟩; exact (H2.out.later (lat_below q)).cells) Try.underlying51 rfl Try.sizeRp6 ?_; simp only [Act.put, List.setIfInBounds_toArray, List.set_cons_succ, List.set_cons_zero])
    | (refine wpQuiet_load_aggG rfl 51 _ rfl ⟨w.heap.size + 2, 0, none⟩ rfl (rpC b bh be bp) _ (by rintro _ ⟨q, rfl⟩; exact (H3.out.later (lat_below q)).cells) Try.underlying51 rfl Try.sizeRp6 ?_; simp only [Act.put, List.setIfInBounds_toArray, List.set_cons_succ, List.set_cons_zero])
    | go_big_quiet_step ((first | (go_at_call 22; with_reducible exact calls_later (G1.out _)) | (go_at_call 22; with_reducible exact calls_later (G2.out _)))))
  refine wpQuiet_nil ?_
  rintro _ ⟨q1, rfl⟩
  have hb1 := lat_below q1
  generalize lat q1 = w1 at *
  have HB1 := hid hb1
  have H1' := hid (H1.out.later hb1); have H2' := hid (H2.out.later hb1); have H3' := hid (H3.out.later hb1)
  have HA1 := hid ((HA0.out.in_ LA.out).below hb1); have HBi := hid ((HB0.out.in_ LB.out).below hb1)
  have SA := hid (LA.out.small HA0.out Hac.out); have SB := hid (LB.out.small HB0.out Hbc.out)
  have C1 := hid (fun w' => rqput_any r w')
  have C2 := hid (fun w' => rrqput_any r w' HR.out)
  have C3 := hid (fun (w' : World) (h : Below w1.heap.size w1 w') => rpput_any a ah ae ap ds w' (HA1.out.below h) SA.out)
  have C4 := hid (fun (w' : World) (h : Below w1.heap.size w1 w') => rrpput_any a ah ae ap ds w' (HA1.out.below h) SA.out)
  rw [putR_uni] at C1 C2
  simp only [putR_uni] at C3 C4
  generalize (putRq r).getD [] = S1 at *
  generalize (if (putRq r).isSome then (0 : Int) else 2) = E1 at *
  generalize (putRp a).getD [] = S2 at *
  generalize (if (putRp a).isSome then (0 : Int) else 2) = E2 at *
  clear hb1
  go_upto_region 7 with (first
    | ((with_reducible show wpList _ _ _ ({ dst := _, op := Op.load 48 _, type := _, pos := _, after := _, guard := _ } :: _) _ _); refine wpList_load_blk rfl 48 _ rfl w.heap.size rfl 48 r.cs _ H1'.out Try.underlying48 rfl Try.sizeRq ?_)
    | ((with_reducible show wpList _ _ _ ({ dst := _, op := Op.load 48 _, type := _, pos := _, after := _, guard := _ } :: _) _ _); refine wpList_load_blk rfl 48 _ rfl w.heap.size rfl 48 r.cs _ (H1'.out.later hb2) Try.underlying48 rfl Try.sizeRq ?_)
    | ((with_reducible show wpList _ _ _ ({ dst := _, op := Op.load 51 _, type := _, pos := _, after := _, guard := _ } :: _) _ _); refine wpList_load_blk rfl 51 _ rfl (w.heap.size + 1) rfl 51 (rpC a ah ae ap) _ (H2'.out.later (bth hb2 hb3)) Try.underlying51 rfl Try.sizeRp6 ?_)
    | ((with_reducible show wpList _ _ _ ({ dst := _, op := Op.load 51 _, type := _, pos := _, after := _, guard := _ } :: _) _ _); refine wpList_load_blk rfl 51 _ rfl (w.heap.size + 1) rfl 51 (rpC a ah ae ap) _ (H2'.out.later (bth (bth hb2 hb3) hb4)) Try.underlying51 rfl Try.sizeRp6 ?_)
    | (go_at_call 24; refine (C1.out _).mono ?_; rintro e w2 ⟨rfl, hb2⟩)
    | (go_at_call 25; refine (C2.out _).mono ?_; rintro e w3 ⟨rfl, hb3⟩)
    | (go_at_call 26; refine (C3.out _ (bth hb2 hb3)).mono ?_; rintro e w4 ⟨rfl, hb4⟩)
    | (go_at_call 27; refine (C4.out _ (bth (bth hb2 hb3) hb4)).mono ?_; rintro e w5 ⟨rfl, hb5⟩))
  have hb15 : Below w1.heap.size w1 w5 := bth (bth (bth hb2 hb3) hb4) hb5
  have K2 := hid (H2'.out.later hb15); have K3 := hid (H3'.out.later hb15)
  have HW := hid (bth (bth Hb0.out HB1.out) hb15)
  have IA := hid (HA1.out.below hb15); have IB := hid (HBi.out.below hb15)
  have M1 := hid (fun q : Later w5 => msame_any a b ah ae ap bh be bp ds es (lat q) (IA.out.below (lat_below q)) (IB.out.below (lat_below q)) SA.out SB.out)
  have M2 := hid (fun q : Later w5 => rmsame_any a b ah ae ap bh be bp ds es (lat q) (IA.out.below (lat_below q)) (IB.out.below (lat_below q)) SA.out SB.out)
  have M3 := fun q : Later w5 => msame_any a a ah ae ap ah ae ap ds ds (lat q) (IA.out.below (lat_below q)) (IA.out.below (lat_below q)) SA.out SA.out
  have haa : sameRp a a = true := by simp [sameRp]
  rw [haa] at M3
  have M3 := hid M3
  have CK := hid (fun q : Later w5 => spoken_any (lat q))
  generalize sameRp a b = SM at *
  clear hb2 hb3 hb4 hb5 hb15 haa
  refine wp_region_later (by kernel_rfl) (by kernel_rfl) ?_
  repeat (first
    | (refine wpQuiet_load_aggG rfl 51 _ rfl ⟨w.heap.size + 1, 0, none⟩ rfl (rpC a ah ae ap) _ (by rintro _ ⟨q, rfl⟩; exact (K2.out.later (lat_below q)).cells) Try.underlying51 rfl Try.sizeRp6 ?_; simp only [Act.put, List.setIfInBounds_toArray, List.set_cons_succ, List.set_cons_zero])
    | (refine wpQuiet_load_aggG rfl 51 _ rfl ⟨w.heap.size + 2, 0, none⟩ rfl (rpC b bh be bp) _ (by rintro _ ⟨q, rfl⟩; exact (K3.out.later (lat_below q)).cells) Try.underlying51 rfl Try.sizeRp6 ?_; simp only [Act.put, List.setIfInBounds_toArray, List.set_cons_succ, List.set_cons_zero])
    | go_big_quiet_step ((first | (go_at_call 28; with_reducible exact calls_later (M1.out _)) | (go_at_call 28; with_reducible exact calls_later (M3.out _)) | (go_at_call 29; with_reducible exact calls_later (M2.out _)) | (go_at_call 23; with_reducible exact calls_later (CK.out _)))))
  refine wpQuiet_nil ?_
  rintro _ ⟨q7, rfl⟩
  have hb7 := lat_below q7
  generalize lat q7 = w7 at *
  go_wp2
  go_ret
  exact ⟨rfl, bth HW.out hb7⟩
theorem messagesPut_law2 (r : Rq) (a : RpK) (ah ae ap : Value) (ds : List Sg) (b : RpK) (bh be bp : Value) (es : List Sg) (w : World) (hr : r.I64) (ha : RpRaw w a ah ae ap ds) (hac : a.code < 9223372036854775808) (hb : RpRaw w b bh be bp es) (hbc : b.code < 9223372036854775808) :
    Calls Try.prog 6 #[r.v, .agg (rpC a ah ae ap), .agg (rpC b bh be bp)] w fun e w' => e = .returned (.bool true) ∧ Below w.heap.size w w' :=
  messagesPut_law r a b ah ae ap bh be bp ds es w hr ha hac hb hbc
end Go.Proofs.Ytjpnlnbpaecciaa
