/- MessagesGet -/
import Derived.Test.YtjpnlnbpaecciaaQMsgSame
import Derived.Test.YtjpnlnbpaecciaaQRRHead

set_option maxRecDepth 100000
namespace Go.Proofs.Ytjpnlnbpaecciaa
open Go.RowKit Go.Spec
def rqOr (o : Option Rq) : Rq := o.getD zeroRq
def okE10 {α : Type} (o : Option α) : Int := if o.isSome then 0 else 10
theorem getRqV_uni (o : Option Rq) : getRqV o = .tuple #[(rqOr o).v, .int .i64 (okE10 o)] := by cases o <;> rfl
theorem RPA.uni {l : List UInt8} {e : Ending} {w w' : World} (h : RPA l e w w') : ∃ vh ve vp ds, e = .returned (.tuple #[.agg (rpC ((getRp l).getD zeroRp) vh ve vp), .int .i64 (okE10 (getRp l))]) ∧ RpIn w' ((getRp l).getD zeroRp) vh ve vp ds ∧ Below w.heap.size w w' := by
  cases hp : getRp l with
  | none => exact ⟨nilV, nilV, nilV, [], h.no hp, rpIn_nil _ _ _ _, h.below⟩
  | some y =>
    obtain ⟨vh, ve, vp, ds, h1, h2⟩ := h.yes y hp
    exact ⟨vh, ve, vp, ds, h1, h2, h.below⟩
theorem rpOr_small (l : List UInt8) : RpSmall ((getRp l).getD zeroRp) := by
  cases hp : getRp l with
  | none => exact zeroRp_small
  | some y => exact getRp_small hp
set_option maxHeartbeats 8000000 in
theorem messagesGet_law (l : List UInt8) (w : World) (hl : l.length ≤ 9223372036854775807) :
    Calls Try.prog 9 #[sv l] w fun e w' => e = .returned (.bool true) ∧ Below w.heap.size w w' := by
  by_cases h4 : 40000 < l.length
  · have d4 : decide ((40000 : Int) < (l.length : Int)) = true := decide_eq_true (by omega)
    clear h4
    go_enter Try.func9, Try.ntmps9
    go_wp2_with (go_at_call 23; refine (spoken_any _).mono ?_; rintro e w1 ⟨rfl, hb1⟩)
    go_ret
    exact ⟨rfl, hb1⟩
  have d4 : decide ((40000 : Int) < (l.length : Int)) = false := decide_eq_false (by omega)
  have hl9 : l.length ≤ 1000000000 := by omega
  have C1 := hid (fun w0 => rqget_any l w0 hl9)
  have C2 := hid (fun w0 => rrqget_any l w0 hl9)
  rw [getRqV_uni] at C1 C2
  have C3 := hid (fun w0 => (rpget_any l w0 hl9).mono fun _ _ h => h.uni)
  have C4 := hid (fun w0 => (rrpget_any l w0 hl9).mono fun _ _ h => h.uni)
  have HSm := hid (rpOr_small l)
  generalize rqOr (getRq l) = r at *
  generalize okE10 (getRq l) = E at *
  generalize (getRp l).getD zeroRp = y at *
  generalize okE10 (getRp l) = F at *
  clear h4
  go_enter Try.func9, Try.ntmps9
  go_upto_region 7 with (first
    | (go_at_call 36; refine (C1.out _).mono ?_; rintro e w1 ⟨rfl, hb1⟩; have Hb1 := hid hb1; clear hb1)
    | (go_at_call 37; refine (C2.out _).mono ?_; rintro e w2 ⟨rfl, hb2⟩; have Hb2 := hid hb2; clear hb2)
    | (go_at_call 38; refine (C3.out _).mono ?_; rintro e w3 ⟨vh, ve, vp, ds, rfl, hin, hb3⟩; have Hb3 := hid hb3; have Hin := hid hin; have Hone := hid hin.ones; clear hb3 hin)
    | (go_at_call 39; refine (C4.out _).mono ?_; rintro e w4 ⟨uh, ue, up, es, rfl, hin, hb4⟩; have Hb4 := hid hb4; have Hin2 := hid hin; have Hone2 := hid hin.ones; clear hb4 hin)
    | ((with_reducible show wpList _ _ _ ({ dst := _, op := Op.store 48 _ _, type := _, pos := _, after := _, guard := _ } :: _) _ _); refine wpList_store_newA rfl 48 _ _ rfl rfl r.cs rfl _ 48 rfl Try.sizeRq (Rq.cs_one _) ?_)
    | ((with_reducible show wpList _ _ _ ({ dst := _, op := Op.store 51 _ _, type := _, pos := _, after := _, guard := _ } :: _) _ _); refine wpList_store_newA rfl 51 _ _ rfl rfl (rpC y vh ve vp) rfl _ 51 rfl Try.sizeRp (rpC_one _ _ _ _ Hone.out.1 Hone.out.2.1 Hone.out.2.2) ?_)
    | ((with_reducible show wpList _ _ _ ({ dst := _, op := Op.store 51 _ _, type := _, pos := _, after := _, guard := _ } :: _) _ _); refine wpList_store_newA rfl 51 _ _ rfl rfl (rpC y uh ue up) rfl _ 51 rfl Try.sizeRp (rpC_one _ _ _ _ Hone2.out.1 Hone2.out.2.1 Hone2.out.2.2) ?_))
  have hW1 := Hb1.out.alloc Hb1.out.size (.cells r.cs 48)
  have hW2 := bth hW1 Hb2.out
  have hW2' := hW2.alloc hW2.size (.cells r.cs 48)
  have hW3 := bth hW2' Hb3.out
  have hW3' := hW3.alloc hW3.size (.cells (rpC y vh ve vp) 51)
  have hW4 := bth hW3' Hb4.out
  have hW4' := hW4.alloc hW4.size (.cells (rpC y uh ue up) 51)
  have hA := ((((((Blk.new w1 r.cs 48).later Hb2.out).alloc (.cells r.cs 48)).later Hb3.out).alloc (.cells (rpC y vh ve vp) 51)).later Hb4.out).alloc (.cells (rpC y uh ue up) 51)
  have hB := ((((Blk.new w2 r.cs 48).later Hb3.out).alloc (.cells (rpC y vh ve vp) 51)).later Hb4.out).alloc (.cells (rpC y uh ue up) 51)
  have hC := ((Blk.new w3 (rpC y vh ve vp) 51).later Hb4.out).alloc (.cells (rpC y uh ue up) 51)
  have hD := Blk.new w4 (rpC y uh ue up) 51
  have hI1 := ((Hin.out.below ((Below.refl _ _).alloc (Nat.le_refl _) (.cells (rpC y vh ve vp) 51))).below Hb4.out).below ((Below.refl _ _).alloc (Nat.le_refl _) (.cells (rpC y uh ue up) 51))
  have hI2 := Hin2.out.below ((Below.refl _ _).alloc (Nat.le_refl _) (.cells (rpC y uh ue up) 51))
  refine wp_world (fun W => Blk W w1.heap.size r.cs 48 ∧ Blk W w2.heap.size r.cs 48 ∧ Blk W w3.heap.size (rpC y vh ve vp) 51 ∧ Blk W w4.heap.size (rpC y uh ue up) 51 ∧ Below w.heap.size w W ∧ RpIn W y vh ve vp ds ∧ RpIn W y uh ue up es) ⟨hA, hB, hC, hD, hW4', hI1, hI2⟩ ?_
  rintro W ⟨hA, hB, hC, hD, hW, hI1, hI2⟩
  have HA := hid hA; have HB := hid hB; have HC := hid hC; have HD := hid hD; have HW := hid hW
  have hkey : sameRp y y = true := by simp [sameRp]
  have CS := fun x : Later W => rmsame_any y y vh ve vp uh ue up ds es (lat x) (hI1.below (lat_below x)) (hI2.below (lat_below x)) HSm.out HSm.out
  rw [hkey] at CS
  have CS := hid CS
  have CK := hid (fun x : Later W => spoken_any (lat x))
  have x0 : r.cs[0]? = some (.int .i64 r.id) := rfl
  have x1 : r.cs[1]? = some (.int .i64 r.kind) := rfl
  have x2 : r.cs[2]? = some (.int .i64 r.fr) := rfl
  have x3 : r.cs[3]? = some (.int .i64 r.count) := rfl
  have x4 : r.cs[4]? = some (.int .i64 r.size) := rfl
  clear hA hB hC hD hW hI1 hI2 hW1 hW2 hW2' hW3 hW3' hW4 hW4' hkey
  refine wp_region_seq_later ?_
  repeat (first
    | (refine wpQuiet_load_aggG rfl 48 _ rfl ⟨w1.heap.size, 0, none⟩ rfl r.cs _ (by rintro _ ⟨q, rfl⟩; exact (HA.out.later (lat_below q)).cells) Try.underlying48 rfl Try.sizeRq ?_; simp only [Act.put, List.setIfInBounds_toArray, List.set_cons_succ, List.set_cons_zero])
    | (refine wpQuiet_load_aggG rfl 48 _ rfl ⟨w2.heap.size, 0, none⟩ rfl r.cs _ (by rintro _ ⟨q, rfl⟩; exact (HB.out.later (lat_below q)).cells) Try.underlying48 rfl Try.sizeRq ?_; simp only [Act.put, List.setIfInBounds_toArray, List.set_cons_succ, List.set_cons_zero])
    | (refine wpQuiet_load_aggG rfl 51 _ rfl ⟨w3.heap.size, 0, none⟩ rfl (rpC y vh ve vp) _ (by rintro _ ⟨q, rfl⟩; exact (HC.out.later (lat_below q)).cells) Try.underlying51 rfl Try.sizeRp ?_; simp only [Act.put, List.setIfInBounds_toArray, List.set_cons_succ, List.set_cons_zero])
    | (refine wpQuiet_load_aggG rfl 51 _ rfl ⟨w4.heap.size, 0, none⟩ rfl (rpC y uh ue up) _ (by rintro _ ⟨q, rfl⟩; exact (HD.out.later (lat_below q)).cells) Try.underlying51 rfl Try.sizeRp ?_; simp only [Act.put, List.setIfInBounds_toArray, List.set_cons_succ, List.set_cons_zero])
    | go_big_quiet_step ((first | (go_at_call 29; with_reducible exact calls_later (CS.out _)) | (go_at_call 23; with_reducible exact calls_later (CK.out _)))))
  refine wpQuiet_nil ?_
  rintro _ ⟨q7, rfl⟩
  have hb7 := lat_below q7
  generalize lat q7 = w7 at *
  go_wp2
  go_ret
  exact ⟨rfl, bth HW.out hb7⟩
end Go.Proofs.Ytjpnlnbpaecciaa
