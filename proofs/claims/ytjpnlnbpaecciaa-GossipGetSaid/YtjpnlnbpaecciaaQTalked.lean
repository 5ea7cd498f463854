/- the chapter's examples -/
import Derived.Test.YtjpnlnbpaecciaaQAnyOp
import Derived.Test.YtjpnlnbpaecciaaQGGetK
import Derived.Test.YtjpnlnbpaecciaaQGPut
import Derived.Test.YtjpnlnbpaecciaaQHashRowC
import Derived.Test.YtjpnlnbpaecciaaQRMissing

set_option maxRecDepth 100000
namespace Go.Spec
open Go.RowKit
theorem sgs2 {w : World} {g t : Nat} {d1 d2 : Sg} (hL : Blk w g (d1.L ++ d2.L).toArray t) (h1 : d1.In w) (h2 : d2.In w) : SgsAt w (.slice (some ⟨g, 0, none⟩) 2 2) [d1, d2] := by
  have hs : (d1.L ++ d2.L).toArray.size = 2 * 36 := by rw [List.size_toArray, List.length_append, Sg.L_len h1.r32, Sg.L_len h2.r32]
  have ho := Blk.owns hL (base := 0) (size := 36) (n := 2) (Nat.zero_le _) (by decide) hs
  rw [List.toList_toArray] at ho
  have he : sgF [d1, d2] = d1.L ++ d2.L := by unfold sgF; simp
  refine SgsAt.of_owns (base := 0) (e := t) (by rw [he]; exact ho) ?_
  intro d hd
  simp only [List.mem_cons, List.not_mem_nil, or_false] at hd
  rcases hd with rfl | rfl
  · exact h1
  · exact h2
theorem hds1 {w : World} {g t : Nat} {h : Hd} (hL : Blk w g (hdA h.z h.r) t) (h32 : h.r.length = 32) : HdsAt w (.slice (some ⟨g, 0, none⟩) 1 1) [h] := by
  have ho := Blk.owns hL (base := 0) (size := 33) (n := 1) (Nat.zero_le _) (by decide) (by rw [hdA_size h32])
  have he : hdF [h] = (hdA h.z h.r).toList := by unfold hdF; simp [Hd.L]
  refine HdsAt.of_owns (base := 0) (e := t) (by rw [he]; exact ho) ?_
  intro d hd
  simp only [List.mem_cons, List.not_mem_nil, or_false] at hd
  rw [hd]; exact h32
end Go.Spec
namespace Go.Proofs.Ytjpnlnbpaecciaa
open Go.RowKit Go.Spec
def one32 : List UInt8 := 1 :: List.replicate 31 0
theorem one32_len : one32.length = 32 := rfl
theorem buildOne (w : World) : (Instr.build 34 #[(0, .int .u8 1)]).run Try.prog w = .ok (hv one32) w := by kernel_rfl
theorem buildRough (z : Int) (a : Option Addr) (n cap : Nat) (w : World) : (Instr.build 75 #[(0, .agg (hdA z one32)), (2, sv [115]), (4, .slice a n cap)]).run Try.prog w = .ok (.agg (rgA z one32 0 [115] 0 (.slice a n cap))) w := by kernel_rfl
set_option maxHeartbeats 4000000 in
theorem signedOf_any (z : Int) (w : World) :
    Calls Try.prog 42 #[.int .i64 z] w fun e w' => (∃ d : Sg, e = .returned (.agg (sgA d.z d.root d.i d.sig d.p)) ∧ d.In w' ∧ d.z = z ∧ d.root = one32 ∧ d.i = 0 ∧ d.sig.length = 16384 ∧ d.path.length = 3) ∧ Below w.heap.size w w' := by
  obtain ⟨i0, hi, hz0, hz1, hz2⟩ := info_parts Try.infoHash
  have B1 := hid buildOne
  have B2 := hid (fun (a : Option Addr) => buildRough z a 3 3)
  have HO1 := hid one32_len
  have hO := one32_len
  generalize one32 = O at *
  have hmk := run_make_hashes (P := Try.prog) 37 34 i0 Try.underlying37 hi hz0 hz1 hz2 3 (by omega) 3 rfl
  go_enter Try.func42, Try.ntmps42
  go_upto_region 1 with fail
  refine wp_name ?_
  intro Z w1 hZ hZB hb1 hw1
  have hZ36 : Z.size = 36 := hZ
  have HZB := hid hZB; have HZ := hid hZ36
  clear hZ hZ36 hZB
  have Hw1 := hid hw1
  have Hb1 := hid hb1
  clear hw1 hb1
  have HM := hid (show HsBlk (w1.alloc (.cells (hc (List.replicate 3 zero32).flatten) 34)) w1.heap.size (List.replicate 3 zero32) 34 from ⟨Blk.new _ _ _, fun x hx => by rw [List.eq_of_mem_replicate hx]; rfl⟩)
  generalize hfl : hc (List.replicate 3 zero32).flatten = fl at *
  have Hfl := hid hfl; clear hfl
  go_wp2_with (first
    | ((with_reducible show wpList _ _ _ ({ dst := _, op := Op.build 34 _, type := _, pos := _, after := _, guard := _ } :: _) _ _); refine wpList_buildP rfl 34 _ rfl (hv O) (fun w => B1.out w) ?_)
    | ((with_reducible show wpList _ _ _ ({ dst := _, op := Op.build 36 _, type := _, pos := _, after := _, guard := _ } :: _) _ _); refine wpList_buildP rfl 36 _ rfl (.agg (hdA z O)) (fun w => buildHead z O HO1.out w) ?_)
    | ((with_reducible show wpList _ _ _ ({ dst := _, op := Op.build 75 _, type := _, pos := _, after := _, guard := _ } :: _) _ _); refine wpList_buildP rfl 75 _ rfl (.agg (rgA z O 0 [115] 0 (.slice (some ⟨w1.heap.size, 0, none⟩) 3 3))) (fun w => B2.out _ w) ?_)
    | (go_at_call 41; refine (rsigned_any z 0 0 O [115] (some ⟨w1.heap.size, 0, none⟩) 3 3 _ HO1.out (by decide) (by decide) (by decide)).mono ?_; rintro e w2 ⟨⟨s, rfl, hs⟩, hb2⟩; have Hs := hid hs; clear hs)
    | ((with_reducible show wpList _ _ _ ({ dst := _, op := Op.store _ _ _, type := _, pos := _, after := _, guard := _ } :: _) _ _); refine wpList_store_blk rfl 41 _ _ rfl w.heap.size rfl (sgA z O 0 s (.slice (some ⟨w1.heap.size, 0, none⟩) 3 3)) rfl Z 41 ((HZB.out.alloc _).later hb2) (by rw [HZ.out, sgA_size HO1.out]) (by rw [sgA_size HO1.out]; exact Try.sizeSigned) (sgA_one rfl) ?_))
  refine bodyPost_ret (results_cell1 rfl _ w.heap.size 41 (sgA z O 0 s (.slice (some ⟨w1.heap.size, 0, none⟩) 3 3)) (0, 0) _ rfl (setRow_get (cs := sgA z O 0 s (.slice (some ⟨w1.heap.size, 0, none⟩) 3 3)) ((HZB.out.alloc _).later hb2)) Try.underlying41 rfl (by rw [sgA_size HO1.out]; exact Try.sizeSigned)) rfl ?_
  have hsl : s.length = 16384 := Hs.out.some_ (by simp)
  have hb3 := bth (Hb1.out.alloc (by rw [Hw1.out]; omega) (.cells fl 34)) hb2
  have hat := (HM.out.later hb2).sl (by decide)
  exact ⟨⟨⟨z, O, 0, s, List.replicate 3 zero32, some ⟨w1.heap.size, 0, none⟩, 3⟩, rfl, ⟨HO1.out, hat.setRow (fun ad h => by injection h with h; subst h; rw [Hw1.out]; simp), by simp only; omega, by simp⟩, rfl, rfl, rfl, hsl, rfl⟩, hb3.setRow (Nat.le_refl _) _⟩
theorem build2 (z z' i i' : Int) (sig sig' : List UInt8) (p p' : Value) (w : World) : (Instr.buildSlice 24 2 #[(0, .agg (sgA z one32 i sig p)), (1, .agg (sgA z' one32 i' sig' p'))]).run Try.prog w = .ok (.slice (some ⟨w.heap.size, 0, none⟩) 2 2) (w.alloc (.cells ((sgA z one32 i sig p).toList ++ (sgA z' one32 i' sig' p').toList).toArray 41)) := by kernel_rfl
theorem ex_pk (w : World) : Calls Try.prog 16 #[.slice none 0 0] w fun e w' => e = .returned (.tuple #[.string ⟨#[68, 0]⟩, .int .i64 0]) ∧ Below w.heap.size w w' :=
  (gputk_any _ [] w (HdsAt.nil _) (by decide)).mono fun _ _ ⟨a, b⟩ => ⟨by rw [a, show putKL [] = some [68, 0] by decide]; rfl, b⟩
theorem ex_p (w : World) : Calls Try.prog 14 #[.slice none 0 0] w fun e w' => e = .returned (.tuple #[.string ⟨#[]⟩, .int .i64 2]) ∧ Below w.heap.size w w' :=
  (gput_any _ [] w (SgsAt.nil _) (by decide)).mono fun _ _ ⟨a, b⟩ => ⟨by rw [a, show putGL [] = none by decide]; rfl, b⟩
theorem ex_gk (w : World) : Calls Try.prog 33 #[.string ⟨#[71]⟩] w fun e w' => e = .returned (.tuple #[.slice none 0 0, .int .i64 10]) ∧ Below w.heap.size w w' :=
  (gkn_any [71] w (by decide)).mono fun _ _ h => ⟨h.no (by decide), h.below⟩
set_option maxHeartbeats 4000000 in
theorem talked_any (w : World) : Calls Try.prog 13 #[] w fun e w' => e = .returned (.bool true) ∧ Below w.heap.size w w' := by
  have HB := Below.refl w.heap.size w
  go_enter Try.func13, Try.ntmps13
  go_upto_region 4 with (first
    | (go_at_call 16; with_reducible refine (ex_pk _).mono ?_; rintro e w1 ⟨rfl, hb⟩; replace HB := bth HB hb; clear hb)
    | (go_at_call 14; with_reducible refine (ex_p _).mono ?_; rintro e w1 ⟨rfl, hb⟩; replace HB := bth HB hb; clear hb)
    | (go_at_call 33; with_reducible refine (ex_gk _).mono ?_; rintro e w1 ⟨rfl, hb⟩; replace HB := bth HB hb; clear hb))
  have HB4 := hid HB
  clear HB
  rename_i w3
  have hO := one32_len
  go_upto_region 5 with (first
    | (go_at_call 42; (with_reducible refine (signedOf_any 1 _).mono ?_); rintro e w4 ⟨⟨⟨z, root, i, sig, path, a, cap⟩, rfl, hd1, rfl, rfl, rfl, hs1, hp1⟩, hb4⟩; have HI1 := hid hd1; have Hs1 := hid hs1; have Hp1 := hid hp1; clear hd1 hs1 hp1)
    | (go_at_call 42; (with_reducible refine (signedOf_any 2 _).mono ?_); rintro e w5 ⟨⟨⟨z, root, i, sig', path', a', cap'⟩, rfl, hd2, rfl, rfl, rfl, hs2, hp2⟩, hb5⟩; have HI2 := hid hd2; have Hs2 := hid hs2; have Hp2 := hid hp2; clear hd2 hs2 hp2)
    | ((with_reducible show wpList _ _ _ ({ dst := _, op := Op.store _ _ _, type := _, pos := _, after := _, guard := _ } :: _) _ _); refine wpList_store_blk rfl 41 _ _ rfl w5.heap.size rfl (sgA 1 one32 0 sig (.slice a path.length cap)) rfl _ 41 ((Blk.new w5 _ _).alloc _) (by rw [sgA_size one32_len]; rfl) (by rw [sgA_size one32_len]; exact Try.sizeSigned) (sgA_one rfl) ?_)
    | ((with_reducible show wpList _ _ _ ({ dst := _, op := Op.store _ _ _, type := _, pos := _, after := _, guard := _ } :: _) _ _); refine wpList_store_blk rfl 41 _ _ rfl (w5.heap.size + 1) rfl (sgA 2 one32 0 sig' (.slice a' path'.length cap')) rfl _ 41 ((Blk.new' _ _ _ (by simp)).setRow_ne (by omega)) (by rw [sgA_size one32_len]; rfl) (by rw [sgA_size one32_len]; exact Try.sizeSigned) (sgA_one rfl) ?_))
  refine wp_world (fun w' => Blk w' w5.heap.size (sgA 1 one32 0 sig (.slice a path.length cap)) 41 ∧ Blk w' (w5.heap.size + 1) (sgA 2 one32 0 sig' (.slice a' path'.length cap')) 41 ∧ Below w5.heap.size w5 w')
    ⟨(((Blk.new w5 _ _).alloc _).setRow).setRow_ne (by omega), ((Blk.new' _ _ _ (by simp)).setRow_ne (by omega)).setRow, ((((Below.refl _ w5).alloc (Nat.le_refl _) _).alloc (by simp) _).setRow (Nat.le_refl _) _).setRow (by omega) _⟩ ?_
  rintro w6 ⟨hA, hB, hb6⟩
  have HA := hid hA; have HBk := hid hB
  have HB6 := hid (bth (bth (bth HB4.out hb4) hb5) hb6)
  have HI1' := hid ((HI1.out.below hb5).below hb6); have HI2' := hid (HI2.out.below hb6)
  clear hA hB hb4 hb5 hb6 HI1 HI2 HB4
  generalize hgA : w5.heap.size = gA at *
  clear hgA
  have HszA := hid (show (Try.prog.info? 41).map (·.size) = some ((sgA 1 one32 0 sig (.slice a path.length cap))).size by rw [sgA_size one32_len]; exact Try.sizeSigned)
  have HszB := hid (show (Try.prog.info? 41).map (·.size) = some ((sgA 2 one32 0 sig' (.slice a' path'.length cap'))).size by rw [sgA_size one32_len]; exact Try.sizeSigned)
  have Hszh := hid (show (Try.prog.info? 36).map (·.size) = some (hdA 1 one32).size by rw [hdA_size one32_len]; exact Try.sizeHead)
  have CM := hid (fun w0 u (h : SgsAt w0 (.slice (some ⟨w6.heap.size, 0, none⟩) 2 2) [⟨1, one32, 0, sig, path, a, cap⟩, ⟨2, one32, 0, sig', path', a', cap'⟩]) (h2 : HdsAt w0 u [⟨1, one32⟩]) => missing_any _ u _ _ w0 h h2 (by simp) (by simp) (by
    intro d hd
    have h1 := Hp1.out; have h2 := Hp2.out
    simp only [List.mem_cons, List.not_mem_nil, or_false] at hd
    rcases hd with rfl | rfl
    · simp only at h1 ⊢; omega
    · simp only at h2 ⊢; omega))
  have HS2 := hid (fun (w0 : World) (hb : Below w6.heap.size w6 w0) (hL : Blk w0 w6.heap.size ((sgA 1 one32 0 sig (.slice a path.length cap)).toList ++ (sgA 2 one32 0 sig' (.slice a' path'.length cap')).toList).toArray 41) => (fun w9 (h9 : Below w0.heap.size w0 w9) => (sgs2 (d1 := ⟨1, one32, 0, sig, path, a, cap⟩) (d2 := ⟨2, one32, 0, sig', path', a', cap'⟩) hL (HI1'.out.below hb) (HI2'.out.below hb)).below h9))
  have HH1 := hid (fun (w0 : World) => hds1 (h := ⟨1, one32⟩) (Blk.new w0 (hdA 1 one32) 36) one32_len)
  have hS7 := HS2.out (w6.alloc (.cells ((sgA 1 one32 0 sig (.slice a path.length cap)).toList ++ (sgA 2 one32 0 sig' (.slice a' path'.length cap')).toList).toArray 41)) ((Below.refl w6.heap.size w6).alloc (Nat.le_refl _) _) (Blk.new _ _ _) ((w6.alloc (.cells ((sgA 1 one32 0 sig (.slice a path.length cap)).toList ++ (sgA 2 one32 0 sig' (.slice a' path'.length cap')).toList).toArray 41)).alloc (.cells (hdA 1 one32) 36)) ((Below.refl _ _).alloc (Nat.le_refl _) _)
  have hH7 := HH1.out (w6.alloc (.cells ((sgA 1 one32 0 sig (.slice a path.length cap)).toList ++ (sgA 2 one32 0 sig' (.slice a' path'.length cap')).toList).toArray 41))
  rw [show (w6.alloc (.cells ((sgA 1 one32 0 sig (.slice a path.length cap)).toList ++ (sgA 2 one32 0 sig' (.slice a' path'.length cap')).toList).toArray 41)).heap.size = w6.heap.size + 1 by simp] at hH7
  have CM7 := hid (CM.out _ _ hS7 hH7)
  clear HS2 HH1 hS7 hH7 CM
  go_upto_region 6 with (first
    | ((with_reducible show wpList _ _ _ ({ dst := _, op := Op.load 41 _, type := _, pos := _, after := _, guard := none } :: _) _ _); refine wpList_load_blk rfl 41 _ rfl gA rfl 41 (sgA 1 one32 0 sig (.slice a path.length cap)) _ HA.out Try.underlying41 rfl HszA.out ?_)
    | ((with_reducible show wpList _ _ _ ({ dst := _, op := Op.load 41 _, type := _, pos := _, after := _, guard := none } :: _) _ _); refine wpList_load_blk rfl 41 _ rfl (gA + 1) rfl 41 (sgA 2 one32 0 sig' (.slice a' path'.length cap')) _ HBk.out Try.underlying41 rfl HszB.out ?_)
    | ((with_reducible show wpList _ _ _ ({ dst := _, op := Op.buildSlice 24 _ _, type := _, pos := _, after := _, guard := _ } :: _) _ _); refine wpList_buildSliceR rfl 24 2 _ rfl _ _ (build2 1 2 0 0 sig sig' (.slice a path.length cap) (.slice a' path'.length cap') _) ?_; have HL := hid (Blk.new w6 ((sgA 1 one32 0 sig (.slice a path.length cap)).toList ++ (sgA 2 one32 0 sig' (.slice a' path'.length cap')).toList).toArray 41))
    | ((with_reducible show wpList _ _ _ ({ dst := _, op := Op.load 36 _, type := _, pos := _, after := _, guard := none } :: _) _ _); refine wpList_load_cs rfl 36 _ rfl ⟨gA, 0, none⟩ rfl (hdA 1 one32) _ (HA.out.alloc _).sgHead Try.underlying36 rfl Hszh.out ?_)
    | ((with_reducible show wpList _ _ _ ({ dst := _, op := Op.buildSlice 23 _ _, type := _, pos := _, after := _, guard := _ } :: _) _ _); refine wpList_buildSlice_one rfl 23 36 _ rfl 33 (.agg (hdA 0 zero32)) (.agg (hdA 1 one32)) (hdA 1 one32) rfl Try.underlying23 Try.infoHead2 rfl (hdA_size one32_len) (by decide) (by decide) ?_)
    | (go_at_call 19; refine CM7.out.mono ?_; rintro e w8 ⟨⟨v, out, rfl, hat, hmk⟩, hb8⟩))
  have hmiss : (missL [⟨1, one32, 0, sig, path, a, cap⟩, ⟨2, one32, 0, sig', path', a', cap'⟩] [⟨1, one32⟩]).map Sg.k = [((2 : Int), one32, (0 : Int), sig', path')] := by
    have hv2 : validB 2 0 sig' path'.length = true := validB_iff.2 ⟨by omega, by omega, by omega, Hs2.out, Hp2.out⟩
    simp [missL, wantB, Sg.valid, Hd.k, Sg.k, hv2]
  rw [hmiss] at hmk
  obtain ⟨x, rfl⟩ : ∃ x, out = [x] := by
    cases out with
    | nil => simp at hmk
    | cons x t => cases t with
      | nil => exact ⟨x, rfl⟩
      | cons y t => simp at hmk
  have hxk : x.z = 2 ∧ x.root = one32 := by
    simp only [List.map_cons, List.map_nil, List.cons.injEq, and_true, Sg.k, Prod.mk.injEq] at hmk
    exact ⟨hmk.1, hmk.2.1⟩
  obtain ⟨va, vcap, rfl, _⟩ := hat.form
  obtain ⟨vb, vo, rfl, hvb, hcell⟩ := hat.get (i := 0) (by simp)
  have Hcx := hid (fun j u (h : (hdA 2 one32).toList[j]? = some u) => by
    have h2 := hcell j u (hd_sg (by
      simp only [List.getElem_cons_zero]
      rw [hxk.1, hxk.2]; exact h))
    rw [Nat.zero_mul, Nat.add_zero] at h2
    exact h2)
  have hgd := Try.guardHead
  have hE : ∀ w, (Op.equalIn 10000 36 (.agg (hdA 2 one32)) (.agg (hdA 2 one32))).run Try.prog w = .ok true w := fun w => by rw [equalHead 2 2 one32 one32 one32_len one32_len w]; simp
  have Hszh2 := hid (show (Try.prog.info? 36).map (·.size) = some (hdA 2 one32).size by rw [hdA_size one32_len]; exact Try.sizeHead)
  have HBk8 := hid (((HBk.out.alloc _).alloc _).later hb8)
  have HB8 := hid (bth (HB6.out.trans ((((Below.refl _ w6).alloc (Nat.le_refl _) _).alloc (by simp) _).mono HB6.out.size)) hb8)
  clear hmk hmiss hxk hcell hat hb8 CM7
  generalize hH2 : hdA 2 one32 = H2 at *
  go_upto_region 6 with fail
  refine wp_region_later (by kernel_rfl) (by kernel_rfl) ?_
  repeat (first
    | (refine wpQuiet_load_aggG rfl 36 _ rfl ⟨vb, vo, none⟩ rfl H2 _ (by rintro _ ⟨q, rfl⟩; exact lat_cells q hvb Hcx.out) Try.underlying36 rfl Hszh2.out ?_; simp only [Act.put, List.setIfInBounds_toArray, List.set_cons_succ, List.set_cons_zero])
    | (refine wpQuiet_load_aggG rfl 36 _ rfl ⟨gA + 1, 0, none⟩ rfl H2 _ (by rintro _ ⟨q, rfl⟩; exact (by rw [← hH2]; exact (HBk8.out.later (lat_below q)).sgHead)) Try.underlying36 rfl Hszh2.out ?_; simp only [Act.put, List.setIfInBounds_toArray, List.set_cons_succ, List.set_cons_zero])
    | go_big_quiet_step (fail))
  refine wpQuiet_nil ?_
  rintro _ ⟨q9, rfl⟩
  have hb9 := lat_below q9
  generalize lat q9 = w9 at *
  go_wp2
  go_ret
  exact ⟨rfl, bth HB8.out hb9⟩
end Go.Proofs.Ytjpnlnbpaecciaa
