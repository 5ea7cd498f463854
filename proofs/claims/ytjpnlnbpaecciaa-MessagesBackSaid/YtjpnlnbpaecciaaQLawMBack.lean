/- MessagesBack -/
import Derived.Test.YtjpnlnbpaecciaaQMBackLaw
import Derived.Test.YtjpnlnbpaecciaaQMsgNumbers
import Derived.Test.YtjpnlnbpaecciaaQMsgSigned
import Derived.Test.YtjpnlnbpaecciaaQRpGet
import Derived.Test.YtjpnlnbpaecciaaQRqGet
import Derived.Deep.DeepCutAuto
set_option maxRecDepth 100000
namespace Go.Proofs.Ytjpnlnbpaecciaa
open Go.RowKit Go.Spec
theorem putR_unb (o : Option (List UInt8)) : putR o = .tuple #[sv (o.getD []), .int .i64 (if o.isSome then 0 else 2)] := by cases o <;> rfl
theorem Try.sizeRpB : (Try.prog.info? 51).map (·.size) = some 6 := by kernel_rfl
theorem rq_no (l : List UInt8) (w : World) (hl : l.length ≤ 1000000000) (h : getRq l = none) : Calls Try.prog 36 #[sv l] w fun e w' => e = .returned (.tuple #[zeroRq.v, .int .i64 10]) ∧ Below w.heap.size w w' := by
  have := rqget_any l w hl
  rw [h] at this
  exact this
theorem rq_yes (l : List UInt8) (r : Rq) (w : World) (hl : l.length ≤ 1000000000) (h : getRq l = some r) : Calls Try.prog 36 #[sv l] w fun e w' => e = .returned (.tuple #[r.v, .int .i64 0]) ∧ Below w.heap.size w w' := by
  have := rqget_any l w hl
  rw [h] at this
  exact this
theorem rp_no (l : List UInt8) (w : World) (hl : l.length ≤ 1000000000) (h : getRp l = none) : Calls Try.prog 38 #[sv l] w fun e w' => e = .returned (.tuple #[.agg rpZ, .int .i64 10]) ∧ Below w.heap.size w w' :=
  (rpget_any l w hl).mono fun _ _ g => ⟨g.no h, g.below⟩
theorem rp_yes (l : List UInt8) (y : RpK) (w : World) (hl : l.length ≤ 1000000000) (h : getRp l = some y) : Calls Try.prog 38 #[sv l] w fun e w' => ∃ vh ve vp ds, e = .returned (.tuple #[.agg (rpC y vh ve vp), .int .i64 0]) ∧ RpIn w' y vh ve vp ds ∧ Below w.heap.size w w' :=
  (rpget_any l w hl).mono fun _ _ g => by
    obtain ⟨vh, ve, vp, ds, h1, h2⟩ := g.yes y h
    exact ⟨vh, ve, vp, ds, h1, h2, g.below⟩
set_option maxHeartbeats 16000000 in
theorem messagesBack_law (r : Rq) (x : RpK) (ah ae ap : Value) (ds : List Sg) (n : Nat) (w : World) (hr : r.I64) (ha : RpRaw w x ah ae ap ds) (hac : x.code < 9223372036854775808) (hn : n < 65536) :
    Calls Try.prog 10 #[r.v, .agg (rpC x ah ae ap), .int .u16 n] w fun e w' => e = .returned (.bool true) ∧ Below w.heap.size w w' := by
  have HA := hid ha; have HR := hid hr
  have Hac := hid hac
  clear ha hr hac
  go_enter Try.func10, Try.ntmps10
  go_upto_region 1 with fail
  refine wp_world (fun W => Blk W w.heap.size r.cs 48 ∧ Blk W (w.heap.size + 1) (rpC x ah ae ap) 51 ∧ Below w.heap.size w W)
    ⟨(Blk.new _ _ _).alloc _, Blk.new' _ _ _ (by simp), ((Below.refl _ w).alloc (Nat.le_refl _) _).alloc (by simp) _⟩ ?_
  rintro w0 ⟨h1, h2, hb0⟩
  have H1 := hid h1; have H2 := hid h2; have Hb0 := hid hb0
  have HA0 := hid (HA.out.below hb0)
  have HOK := hid HA.out.ok
  clear h1 h2 hb0 HA
  have G1 := hid (great17_det x ah ae ap ds w0 HA0.out)
  have Hla := hid (greatOf_iff x ds).1
  generalize greatOf x ds = GA at *
  cases GA with
  | true =>
    clear Hla
    go_wp2_with (first
      | ((with_reducible show wpList _ _ _ ({ dst := _, op := Op.load 51 _, type := _, pos := _, after := _, guard := _ } :: _) _ _); refine wpList_load_blk rfl 51 _ rfl (w.heap.size + 1) rfl 51 (rpC x ah ae ap) _ H2.out Try.underlying51 rfl Try.sizeRpB ?_)
      | (go_at_call 22; refine (G1.out).mono ?_; rintro e w1 ⟨rfl, hb1⟩)
      | (go_at_call 23; refine (spoken_any _).mono ?_; rintro e w9 ⟨rfl, hb9⟩))
    go_ret
    exact ⟨rfl, bth (Hb0.out.trans (hb1.mono Hb0.out.size)) hb9⟩
  | false =>
  have LA := hid (Hla.out rfl)
  clear Hla
  have SA := hid (LA.out.small HA0.out Hac.out)
  have C1 := hid (fun w' => rqput_any r w')
  rw [putR_unb] at C1
  have HQ := hid (show ((if (putRq r).isSome then (0 : Int) else 2) == 0) = true → QF ((putRq r).getD []) r n (n % ((putRq r).getD []).length) by
    intro h
    cases hp : putRq r with
    | none => rw [hp] at h; cases h
    | some t => exact QF.of hp n)
  generalize (putRq r).getD [] = S1 at *
  generalize (if (putRq r).isSome then (0 : Int) else 2) = E1 at *
  go_upto_if 38 with (first
      | ((with_reducible show wpList _ _ _ ({ dst := _, op := Op.load 51 _, type := _, pos := _, after := _, guard := _ } :: _) _ _); refine wpList_load_blk rfl 51 _ rfl (w.heap.size + 1) rfl 51 (rpC x ah ae ap) _ H2.out Try.underlying51 rfl Try.sizeRpB ?_)
      | ((with_reducible show wpList _ _ _ ({ dst := _, op := Op.load 48 _, type := _, pos := _, after := _, guard := _ } :: _) _ _); refine wpList_load_blk rfl 48 _ rfl w.heap.size rfl 48 r.cs _ (H1.out.later hb1) Try.underlying48 rfl Try.sizeRq ?_)
      | (go_at_call 22; refine (G1.out).mono ?_; rintro e w1 ⟨rfl, hb1⟩)
      | (go_at_call 24; refine (C1.out _).mono ?_; rintro e w2 ⟨rfl, hb2⟩))
  have hb12 : Below w0.heap.size w0 w2 := bth hb1 hb2
  have K1 := hid (H1.out.later hb12); have K2 := hid (H2.out.later hb12)
  have HA2 := hid ((HA0.out.in_ LA.out).below hb12)
  have Hb2 := hid (bth Hb0.out hb12)
  clear hb1 hb2 hb12 C1 G1 H1 H2 HA0 Hb0
  go_cut [] (fun wx => Below w2.heap.size w2 wx)
  case first =>
    cases hE : E1 == 0 with
    | false =>
      go_wp2
      go_meet
      exact Below.refl _ _
    | true =>
      obtain ⟨k1, k2, k3, k3', k4, k5, k6, k7, k8, k9, k10⟩ := HQ.out hE
      generalize n % S1.length = m at *
      have F1 := hid (fun w0 => rq_yes S1 _ w0 (by omega) k3)
      have F2 := hid (fun w0 => rq_no (S1.take m) w0 (by rw [List.length_take]; omega) k4)
      have F3 := hid (fun w0 => rq_no (S1 ++ [0]) w0 (by rw [List.length_append]; simp; omega) k5)
      have F4 := hid (fun w0 => rp_no S1 w0 (by omega) k6)
      have F5 := fun w0 => rqput_any r.canon w0
      rw [k3'] at F5
      have F5 := hid F5
      have hz2 : ((S1.length : Int) == 0) = false := by simp; exact fun h => by rw [h] at k1; simp at k1
      have K9 := hid k9; have K10 := hid k10
      clear k3 k3' k4 k5 k6 k9 k10
      go_upto_region 12 with (first
        | (go_at_call 36; (with_reducible refine (F1.out _).mono ?_); rintro e w3 ⟨rfl, hb3⟩)
        | ((with_reducible show wpList _ _ _ ({ dst := _, op := Op.store 48 (.tmp 9) _, type := _, pos := _, after := _, guard := _ } :: _) _ _); refine wpList_store_newA rfl 48 _ _ rfl rfl r.canon.cs rfl _ 48 rfl Try.sizeRq (Rq.cs_one _) ?_)
        | ((with_reducible show wpList _ _ _ ({ dst := _, op := Op.load 48 _, type := _, pos := _, after := _, guard := _ } :: _) _ _); refine wpList_load_blk rfl 48 _ rfl w3.heap.size rfl 48 r.canon.cs _ (Blk.new w3 r.canon.cs 48) Try.underlying48 rfl Try.sizeRq ?_)
        | (go_at_call 24; refine (F5.out _).mono ?_; rintro e w4 ⟨rfl, hb4⟩; simp only [putR])
        | (go_at_call 36; (with_reducible refine (F2.out _).mono ?_); rintro e w5 ⟨rfl, hb5⟩)
        | ((with_reducible show wpList _ _ _ ({ dst := _, op := Op.store 48 _ _, type := _, pos := _, after := _, guard := _ } :: _) _ _); refine wpList_store_newA rfl 48 _ _ rfl rfl zeroRq.cs rfl _ 48 rfl Try.sizeRq (Rq.cs_one _) ?_)
        | (go_at_call 36; (with_reducible refine (F3.out _).mono ?_); rintro e w6 ⟨rfl, hb6⟩)
        | (go_at_call 38; (with_reducible refine (F4.out _).mono ?_); rintro e w7 ⟨rfl, hb7⟩)
        | ((with_reducible show wpList _ _ _ ({ dst := _, op := Op.store 51 _ _, type := _, pos := _, after := _, guard := _ } :: _) _ _); refine wpList_store_newA rfl 51 _ _ rfl rfl rpZ rfl _ 51 rfl Try.sizeRpB rpZ_one ?_))
      have hA := ((((((Blk.new w3 r.canon.cs 48).later hb4).later hb5).alloc (.cells zeroRq.cs 48)).later hb6).alloc (.cells zeroRq.cs 48)).later hb7 |>.alloc (.cells rpZ 51)
      have hW3 := hb3.alloc hb3.size (.cells r.canon.cs 48)
      have hW5 := bth (bth hW3 hb4) hb5
      have hW5' := hW5.alloc hW5.size (.cells zeroRq.cs 48)
      have hW6 := bth hW5' hb6
      have hW6' := hW6.alloc hW6.size (.cells zeroRq.cs 48)
      have hW7 := bth hW6' hb7
      have hW7' := hW7.alloc hW7.size (.cells rpZ 51)
      refine wp_world (fun W => Blk W w3.heap.size r.canon.cs 48 ∧ Blk W w.heap.size r.cs 48 ∧ Below w2.heap.size w2 W) ⟨hA, K1.out.later hW7', hW7'⟩ ?_
      rintro W ⟨hA, hB, hW⟩
      have a0 : W.cell? ⟨w3.heap.size, 0, none⟩ = some (.int .i64 r.id) := by rw [← K9.out]; exact Blk.cell hA 0
      have a1 : W.cell? ⟨w3.heap.size, 1, none⟩ = some (.int .i64 r.kind) := by rw [← K10.out]; exact Blk.cell hA 1
      have b0 : W.cell? ⟨w.heap.size, 0, none⟩ = some (.int .i64 r.id) := Blk.cell hB 0
      have b1 : W.cell? ⟨w.heap.size, 1, none⟩ = some (.int .i64 r.kind) := Blk.cell hB 1
      have i1 : (r.id != r.id) = false := by simp
      have i2 : (r.kind != r.kind) = false := by simp
      have i3 : (S1 != S1) = false := by simp
      have HW := hid hW
      clear hA hB hW hW3 hW5 hW5' hW6 hW6' hW7 hW7' hb3 hb4 hb5 hb6 hb7
      go_wp2
      go_meet
      exact HW.out
  case rest =>
    have K1' := hid (K1.out.later hcut); have K2' := hid (K2.out.later hcut)
    have HA3 := hid (HA2.out.below hcut)
    have Hb3 := hid (bth Hb2.out hcut)
    clear hcut K1 K2 HA2 Hb2 HQ
    have C3 := fun (w' : World) (h : Below wc.heap.size wc w') => rpput_any x ah ae ap ds w' (HA3.out.below h) SA.out
    cases hp : putRp x with
    | none =>
      rw [hp] at C3
      have C3 := hid C3
      clear hp
      go_wp2_with (first
        | ((with_reducible show wpList _ _ _ ({ dst := _, op := Op.load 51 _, type := _, pos := _, after := _, guard := _ } :: _) _ _); refine wpList_load_blk rfl 51 _ rfl (w.heap.size + 1) rfl 51 (rpC x ah ae ap) _ K2'.out Try.underlying51 rfl Try.sizeRpB ?_)
        | (go_at_call 26; refine (C3.out _ (Below.refl _ _)).mono ?_; rintro e w4 ⟨rfl, hb4⟩; simp only [putR])
        | (go_at_call 23; refine (spoken_any _).mono ?_; rintro e w9 ⟨rfl, hb9⟩))
      go_ret
      exact ⟨rfl, bth (bth Hb3.out hb4) hb9⟩
    | some t =>
      rw [hp] at C3
      have C3 := hid C3
      obtain ⟨k1, k2, k3, k3', k4, k5, k6, k7, k8, k9, k10, k11⟩ := PF.of HOK.out hp n
      generalize n % t.length = m at *
      have F1 := hid (fun w0 => rp_yes t _ w0 (by omega) k3)
      have F2 := hid (fun w0 => rp_no (t.take m) w0 (by rw [List.length_take]; omega) k4)
      have F3 := hid (fun w0 => rp_no (t ++ [0]) w0 (by rw [List.length_append]; simp; omega) k5)
      have F4 := hid (fun w0 => rq_no t w0 (by omega) k6)
      have F5 := fun w0 vh ve vp es (h : RpIn w0 x.canon vh ve vp es) => rpput_any x.canon vh ve vp es w0 h k11
      rw [k3'] at F5
      have F5 := hid F5
      have hz2 : ((t.length : Int) == 0) = false := by simp; exact fun h => by rw [h] at k1; simp at k1
      have K9 := hid k9; have K10 := hid k10
      clear k3 k3' k4 k5 k6 k9 k10 hp
      go_upto_region 24 with (first
        | ((with_reducible show wpList _ _ _ ({ dst := _, op := Op.load 51 _, type := _, pos := _, after := _, guard := _ } :: _) _ _); refine wpList_load_blk rfl 51 _ rfl (w.heap.size + 1) rfl 51 (rpC x ah ae ap) _ K2'.out Try.underlying51 rfl Try.sizeRpB ?_)
        | (go_at_call 26; (with_reducible refine (C3.out _ (Below.refl _ _)).mono ?_); rintro e w2' ⟨rfl, hb2⟩; simp only [putR])
        | (go_at_call 38; (with_reducible refine (F1.out _).mono ?_); rintro e w3 ⟨vh, ve, vp, es, rfl, hin, hb3⟩; have Hin := hid hin; have Hone := hid hin.ones; clear hin)
        | ((with_reducible show wpList _ _ _ ({ dst := _, op := Op.store 51 (.tmp 19) _, type := _, pos := _, after := _, guard := _ } :: _) _ _); refine wpList_store_newA rfl 51 _ _ rfl rfl (rpC x.canon vh ve vp) rfl _ 51 rfl Try.sizeRpB (rpC_one _ _ _ _ Hone.out.1 Hone.out.2.1 Hone.out.2.2) ?_)
        | ((with_reducible show wpList _ _ _ ({ dst := _, op := Op.load 51 _, type := _, pos := _, after := _, guard := _ } :: _) _ _); refine wpList_load_blk rfl 51 _ rfl w3.heap.size rfl 51 (rpC x.canon vh ve vp) _ (Blk.new w3 (rpC x.canon vh ve vp) 51) Try.underlying51 rfl Try.sizeRpB ?_)
        | (go_at_call 26; refine (F5.out _ vh ve vp es (Hin.out.below ((Below.refl _ _).alloc (Nat.le_refl _) _))).mono ?_; rintro e w4 ⟨rfl, hb4⟩; simp only [putR])
        | (go_at_call 38; (with_reducible refine (F2.out _).mono ?_); rintro e w5 ⟨rfl, hb5⟩)
        | ((with_reducible show wpList _ _ _ ({ dst := _, op := Op.store 51 _ _, type := _, pos := _, after := _, guard := _ } :: _) _ _); refine wpList_store_newA rfl 51 _ _ rfl rfl rpZ rfl _ 51 rfl Try.sizeRpB rpZ_one ?_)
        | (go_at_call 38; (with_reducible refine (F3.out _).mono ?_); rintro e w6 ⟨rfl, hb6⟩)
        | (go_at_call 36; (with_reducible refine (F4.out _).mono ?_); rintro e w7 ⟨rfl, hb7⟩)
        | ((with_reducible show wpList _ _ _ ({ dst := _, op := Op.store 48 _ _, type := _, pos := _, after := _, guard := _ } :: _) _ _); refine wpList_store_newA rfl 48 _ _ rfl rfl zeroRq.cs rfl _ 48 rfl Try.sizeRq (Rq.cs_one _) ?_))
      have hA := ((((((Blk.new w3 (rpC x.canon vh ve vp) 51).later hb4).later hb5).alloc (.cells rpZ 51)).later hb6).alloc (.cells rpZ 51)).later hb7 |>.alloc (.cells zeroRq.cs 48)
      have hW3 := (bth hb2 hb3).alloc (bth hb2 hb3).size (.cells (rpC x.canon vh ve vp) 51)
      have hW5 := bth (bth hW3 hb4) hb5
      have hW5' := hW5.alloc hW5.size (.cells rpZ 51)
      have hW6 := bth hW5' hb6
      have hW6' := hW6.alloc hW6.size (.cells rpZ 51)
      have hW7 := bth hW6' hb7
      have hW7' := hW7.alloc hW7.size (.cells zeroRq.cs 48)
      refine wp_world (fun W => Blk W w3.heap.size (rpC x.canon vh ve vp) 51 ∧ Blk W (w.heap.size + 1) (rpC x ah ae ap) 51 ∧ Below w.heap.size w W) ⟨hA, K2'.out.later hW7', bth Hb3.out hW7'⟩ ?_
      rintro W ⟨hA, hB, hW⟩
      have a0 : W.cell? ⟨w3.heap.size, 0, none⟩ = some (.int .i64 x.id) := by rw [← K9.out]; exact Blk.cell hA 0
      have a1 : W.cell? ⟨w3.heap.size, 1, none⟩ = some (.int .i64 x.kind) := by rw [← K10.out]; exact Blk.cell hA 1
      have b0 : W.cell? ⟨w.heap.size + 1, 0, none⟩ = some (.int .i64 x.id) := Blk.cell hB 0
      have b1 : W.cell? ⟨w.heap.size + 1, 1, none⟩ = some (.int .i64 x.kind) := Blk.cell hB 1
      have i1 : (x.id == x.id) = true := by simp
      have i2 : (x.kind == x.kind) = true := by simp
      have i3 : (t == t) = true := by simp
      have HW := hid hW
      clear hA hB hW hW3 hW5 hW5' hW6 hW6' hW7 hW7' hb2 hb3 hb4 hb5 hb6 hb7
      go_wp2_with (go_at_call 23; refine (spoken_any _).mono ?_; rintro e w9 ⟨rfl, hb9⟩)
      go_ret
      exact ⟨rfl, bth HW.out hb9⟩
theorem messagesBack_law2 (r : Rq) (x : RpK) (ah ae ap : Value) (ds : List Sg) (n : Nat) (w : World) (hr : r.I64) (ha : RpRaw w x ah ae ap ds) (hac : x.code < 9223372036854775808) (hn : n < 65536) :
    Calls Try.prog 10 #[r.v, .agg (rpC x ah ae ap), .int .u16 n] w fun e w' => e = .returned (.bool true) ∧ Below w.heap.size w w' :=
  messagesBack_law r x ah ae ap ds n w hr ha hac hn
end Go.Proofs.Ytjpnlnbpaecciaa
