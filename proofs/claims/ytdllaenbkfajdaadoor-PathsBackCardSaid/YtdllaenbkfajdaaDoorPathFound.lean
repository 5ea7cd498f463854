/- speculumlaw06.found (printed by wip/foundgen.py) -/
import Derived.Test.YtdllaenbkfajdaaDoorPathCheck
import Derived.Test.YtdllaenbkfajdaaDoorPathRef
import Derived.Test.YtdllaenbkfajdaaDoorTakeC
import Derived.Maps.RangeWalk
import Derived.Test.YtdllaenbkfajdaaDoorHashLit
import Derived.Test.YtdllaenbkfajdaaDoorTreeSame
import Derived.Test.YtdllaenbkfajdaaDoorTreeGrown
set_option maxRecDepth 100000
namespace Go.Proofs.YtdllaenbkfajdaaDoor
open Go.RowKit Go.Spec
theorem found_path2 : pathL (someL 4 5) 2 = [someH 4 3, nodeL (someH 4 0) (someH 4 1), someH 4 4] := by decide +kernel
theorem found_path4 : pathL (someL 4 5) 4 = [rootL ((someL 4 5).take 4)] := by decide +kernel
theorem found_chk4 : checkE (someH 4 4) 4 5 [rootL ((someL 4 5).take 4)] (rootL (someL 4 5)) = 0 := by decide +kernel
theorem found_chk2 : checkE (someH 4 2) 2 5 [rootL ((someL 4 5).take 4)] (rootL (someL 4 5)) = 80 := by decide +kernel
theorem path_sl (v : Value) (hs : List (List UInt8)) (i : Nat) (w : World) (hS : SlAt w 32 v (hcs hs)) (hl : hs.length ≤ 1000000) (hi : i < hs.length) (hG : ShaG w) :
    Calls Tryd.prog 30 #[v, .int .i64 (i : Int)] w fun e w' => (∃ u, e = .returned (.tuple #[u, .int .i64 0]) ∧ SlAt w' 32 u (hcs (pathL hs i))) ∧ Below w.heap.size w w' :=
  (path_in v hs i w hS hl hi hG).mono fun _ _ ⟨⟨u, he, hown⟩, hb⟩ => ⟨⟨u, he, SlAt.of_owns (size := 32) (hs := pathL hs i) hown (path_32 hs.length hs i (Nat.le_refl _) hS.len32)⟩, hb⟩
set_option maxHeartbeats 8000000 in
theorem found_any (w : World) (hG : ShaG w) :
    Calls Tryd.prog 29 #[] w fun e w' => e = .returned (.bool true) ∧ Below w.heap.size w w' := by
  have HG := hid hG; clear hG
  have P2 := hid (show ∀ v w0, SlAt w0 32 v (hcs (someL 4 5)) → ShaG w0 → Calls Tryd.prog 30 #[v, .int .i64 2] w0 fun e w' => (∃ u, e = .returned (.tuple #[u, .int .i64 0]) ∧ SlAt w' 32 u (hcs (pathL (someL 4 5) 2))) ∧ Below w0.heap.size w0 w' from fun v w0 h h0 => path_sl v (someL 4 5) 2 w0 h (by decide) (by decide) h0)
  have P4 := hid (show ∀ v w0, SlAt w0 32 v (hcs (someL 4 5)) → ShaG w0 → Calls Tryd.prog 30 #[v, .int .i64 4] w0 fun e w' => (∃ u, e = .returned (.tuple #[u, .int .i64 0]) ∧ SlAt w' 32 u (hcs (pathL (someL 4 5) 4))) ∧ Below w0.heap.size w0 w' from fun v w0 h h0 => path_sl v (someL 4 5) 4 w0 h (by decide) (by decide) h0)
  have P5 := hid (fun v w0 (h : SlAt w0 32 v (hcs (someL 4 5))) => path_out v (someL 4 5) 5 w0 h (by decide) (by decide))
  rw [found_path2] at P2
  rw [found_path4] at P4
  have Rt := hid (fun v w0 (h : SlAt w0 32 v (hcs (someL 4 5))) h0 => root_any (someL 4 5) v w0 (by decide) h0 h)
  have Rt4 := hid (fun v w0 (h : SlAt w0 32 v (hcs ((someL 4 5).take 4))) h0 => root_any ((someL 4 5).take 4) v w0 (by decide) h0 h)
  have hl0 := someH_len 4 0
  have hl1 := someH_len 4 1
  have hl2 := someH_len 4 2
  have hl3 := someH_len 4 3
  have hl4 := someH_len 4 4
  have HRl := hid (rootL_len _ (someL 4 5) (Nat.le_refl _) (someL_32 4 5))
  have HR4l := hid (rootL_len _ ((someL 4 5).take 4) (Nat.le_refl _) (fun x hx => someL_32 4 5 x (List.mem_of_mem_take hx)))
  have HNl := hid (nodeL_len (someH 4 0) (someH 4 1))
  have Nd := hid (fun w0 h0 => node_any (someH 4 0) (someH 4 1) w0 hl0 hl1 h0)
  have E4 := hid found_chk4
  have E2 := hid found_chk2
  have HL := hid (show someL 4 5 = [someH 4 0, someH 4 1, someH 4 2, someH 4 3, someH 4 4] by rfl)
  go_enter Tryd.func29, Tryd.ntmps29
  go_wp2_with fail
  refine (some_sl 4 5 _ (by decide)).mono ?_
  rintro e w1 ⟨v, rfl, hS, hb1⟩
  obtain ⟨a, cap, rfl, hcap⟩ := hS.formH
  rw [someL_len] at hS hcap ⊢
  obtain ⟨b, o, rfl, hblt⟩ := hS.addr (by rw [hcs_length, someL_len]; decide)
  have HS1 := hid hS; have HB1 := hid hb1
  clear hS hb1
  go_wp2_with fail
  refine (P2.out _ _ HS1.out (HG.out.later HB1.out)).mono ?_
  rintro e w2 ⟨⟨u2, rfl, hu2⟩, hb2⟩
  have HU2 := hid hu2; have HB2 := hid (bth HB1.out hb2); have HS2 := hid (HS1.out.below hb2 (Nat.le_refl _))
  clear hu2 hb2 HS1 HB1 P2
  go_wp2_with fail
  refine (P4.out _ _ HS2.out (HG.out.later HB2.out)).mono ?_
  rintro e w3 ⟨⟨u4, rfl, hu4⟩, hb3⟩
  have HU4 := hid hu4; have HU2' := hid (HU2.out.below hb3 (Nat.le_refl _)); have HB3 := hid (bth HB2.out hb3); have HS3 := hid (HS2.out.below hb3 (Nat.le_refl _))
  clear hu4 hb3 HS2 HB2 HU2 P4
  go_wp2_with fail
  refine (P5.out _ _ HS3.out).mono ?_
  rintro e w4 ⟨rfl, hb4⟩
  have HU44 := hid (HU4.out.below hb4 (Nat.le_refl _)); have HU24 := hid (HU2'.out.below hb4 (Nat.le_refl _)); have HB4 := hid (bth HB3.out hb4); have HS4 := hid (HS3.out.below hb4 (Nat.le_refl _))
  clear hb4 HS3 HB3 HU2' HU4 P5
  go_wp2_with fail
  refine (Rt.out _ _ HS4.out (HG.out.later HB4.out)).mono ?_
  rintro e w5 ⟨rfl, hb5⟩
  have HB5 := hid (bth HB4.out hb5)
  have hal := (Below.refl w5.heap.size w5).alloc (Nat.le_refl _) (.cells (hc (rootL (someL 4 5))) 25)
  have HS6 := hid (HS4.out.below (bth hb5 hal) (Nat.le_refl _))
  have HU2 := hid (HU24.out.below (bth hb5 hal) (Nat.le_refl _))
  have HU4 := hid (HU44.out.below (bth hb5 hal) (Nat.le_refl _))
  have HB6 := hid (bth HB5.out hal)
  have HRt := hid (Blk.new w5 (hc (rootL (someL 4 5))) 25)
  have Hs4 := hid (show SlAt (w5.alloc (.cells (hc (rootL (someL 4 5))) 25)) 32 (.slice (some ⟨b, o, none⟩) 4 cap) (hcs ((someL 4 5).take 4)) by
    have := HS6.out.takeS 4 (by rw [hcs_length, someL_len]; decide)
    rwa [hcs_take] at this)
  clear hb5 HS4 HU24 HU44 HB4 HB5 hal
  have Hcells := hid (show ∀ i x, (someL 4 5)[i]? = some x → ∀ w', Below (w5.alloc (.cells (hc (rootL (someL 4 5))) 25)).heap.size (w5.alloc (.cells (hc (rootL (someL 4 5))) 25)) w' → ∀ j u, (x.map bcell)[j]? = some u → w'.cell? ((⟨b, o + i * 32, none⟩ : Addr).add j) = some u from fun i x hx w' hw' => by
    obtain ⟨b', o', e1, _, _, h3⟩ := (HS6.out.below hw' (Nat.le_refl _)).at (i := i) (cs := x.map bcell) (by unfold hcs; rw [List.getElem?_map, hx]; rfl)
    injection e1 with e1
    injection e1 with e2 e3
    subst e2; subst e3
    exact h3)
  have C0 := hid (Hcells.out 0 (someH 4 0) rfl)
  have C1 := hid (Hcells.out 1 (someH 4 1) rfl)
  have C2 := hid (Hcells.out 2 (someH 4 2) rfl)
  have C3 := hid (Hcells.out 3 (someH 4 3) rfl)
  have C4 := hid (Hcells.out 4 (someH 4 4) rfl)
  rw [show o + 0 * 32 = o by omega] at C0
  rw [show o + 1 * 32 = o + 32 by omega] at C1
  rw [show o + 2 * 32 = o + 64 by omega] at C2
  rw [show o + 3 * 32 = o + 96 by omega] at C3
  rw [show o + 4 * 32 = o + 128 by omega] at C4
  clear Hcells
  generalize (someL 4 5).take 4 = L4 at *
  generalize hR4 : rootL L4 = R4 at *
  clear hR4
  generalize hR : rootL (someL 4 5) = R at *
  clear hR HL
  generalize nodeL (someH 4 0) (someH 4 1) = N at *
  generalize someL 4 5 = L5 at *
  generalize someH 4 0 = A0 at *
  generalize someH 4 1 = A1 at *
  generalize someH 4 2 = A2 at *
  generalize someH 4 3 = A3 at *
  generalize someH 4 4 = A4 at *
  have S0 := hid (show (Tryd.prog.info? 25).map (·.size) = some A0.length by rw [hl0]; exact Tryd.sizeHash)
  have S1 := hid (show (Tryd.prog.info? 25).map (·.size) = some A1.length by rw [hl1]; exact Tryd.sizeHash)
  have S2 := hid (show (Tryd.prog.info? 25).map (·.size) = some A2.length by rw [hl2]; exact Tryd.sizeHash)
  have S3 := hid (show (Tryd.prog.info? 25).map (·.size) = some A3.length by rw [hl3]; exact Tryd.sizeHash)
  have S4 := hid (show (Tryd.prog.info? 25).map (·.size) = some A4.length by rw [hl4]; exact Tryd.sizeHash)
  have SR := hid (show (Tryd.prog.info? 25).map (·.size) = some R.length by rw [HRl.out]; exact Tryd.sizeHash)
  have L2 := hid hl2; have L3 := hid hl3; have L4' := hid hl4
  clear hl0 hl1 hl2 hl3 hl4
  go_upto_region 6 with ((with_reducible show wpList _ _ _ ({ dst := _, op := Op.store _ _ _, type := _, pos := _, after := _, guard := _ } :: _) _ (World.alloc w5 _)); refine wpList_store_new rfl 25 _ _ rfl rfl R rfl (hc zero32) 25 (by rw [HRl.out]; rfl) SR.out ?_)
  show Code.wp _ _ _ _ (w5.alloc (.cells (hc R) 25))
  generalize w5.alloc (.cells (hc R) 25) = w6 at *
  generalize w5.heap.size = g8 at *
  have CR := hid (show ∀ w', Below w6.heap.size w6 w' → ∀ j u, (R.map bcell)[j]? = some u → w'.cell? ((⟨g8, 0, none⟩ : Addr).add j) = some u from fun w' hw' j u hj => (HRt.out.later hw').cells j u (by rw [hc_toList]; exact hj))
  refine wp_region_anyC (by kernel_rfl) ?_
  intro w7 he7 hb7
  have HB7 := hid hb7
  clear he7 hb7
  show wpAnyC _ _ _ _ _ 55 (Array.replicate 55 false) _ _
  refine wpAnyC_take (i := 0) (v := .int .i64 0) rfl (by kernel_rfl) (by kernel_rfl) (by kernel_rfl) (fun _ _ _ h => h) (Or.inl ⟨by rfl, ?_⟩) ?_
  · intro w _
    go_simp
    try exact IntWalk.i64_in _ (by omega)
    try omega
  (try dsimp only [List.getElem_toArray, List.getElem_cons_succ, List.getElem_cons_zero]); (try go_frame)
  refine wpAnyC_take (i := 1) (v := .bool true) rfl (by kernel_rfl) (by kernel_rfl) (by kernel_rfl) (fun _ _ _ h => h) (Or.inl ⟨by rfl, ?_⟩) ?_
  · intro w _
    go_simp
    try exact IntWalk.i64_in _ (by omega)
    try omega
  (try dsimp only [List.getElem_toArray, List.getElem_cons_succ, List.getElem_cons_zero]); (try go_frame)
  refine wpAnyC_take (i := 2) (v := .bool true) rfl (by kernel_rfl) (by kernel_rfl) (by kernel_rfl) (fun _ _ _ h => h) (Or.inl ⟨by rfl, ?_⟩) ?_
  · intro w _
    go_simp
    try exact IntWalk.i64_in _ (by omega)
    try omega
  (try dsimp only [List.getElem_toArray, List.getElem_cons_succ, List.getElem_cons_zero]); (try go_frame)
  refine wpAnyC_take (i := 3) (v := .int .i64 0) rfl (by kernel_rfl) (by kernel_rfl) (by kernel_rfl) (fun _ _ _ h => h) (Or.inl ⟨by rfl, ?_⟩) ?_
  · intro w _
    go_simp
    try exact IntWalk.i64_in _ (by omega)
    try omega
  (try dsimp only [List.getElem_toArray, List.getElem_cons_succ, List.getElem_cons_zero]); (try go_frame)
  refine wpAnyC_take (i := 4) (v := .bool true) rfl (by kernel_rfl) (by kernel_rfl) (by kernel_rfl) (fun _ _ _ h => h) (Or.inl ⟨by rfl, ?_⟩) ?_
  · intro w _
    go_simp
    try exact IntWalk.i64_in _ (by omega)
    try omega
  (try dsimp only [List.getElem_toArray, List.getElem_cons_succ, List.getElem_cons_zero]); (try go_frame)
  refine wpAnyC_take (i := 5) (v := .bool true) rfl (by kernel_rfl) (by kernel_rfl) (by kernel_rfl) (fun _ _ _ h => h) (Or.inl ⟨by rfl, ?_⟩) ?_
  · intro w _
    go_simp
    try exact IntWalk.i64_in _ (by omega)
    try omega
  (try dsimp only [List.getElem_toArray, List.getElem_cons_succ, List.getElem_cons_zero]); (try go_frame)
  refine wpAnyC_take (i := 6) (v := .bool true) rfl (by kernel_rfl) (by kernel_rfl) (by kernel_rfl) (fun _ _ _ h => h) (Or.inl ⟨by rfl, ?_⟩) ?_
  · intro w _
    go_simp
    try exact IntWalk.i64_in _ (by omega)
    try omega
  (try dsimp only [List.getElem_toArray, List.getElem_cons_succ, List.getElem_cons_zero]); (try go_frame)
  refine wpAnyC_take (i := 7) (v := .int .i64 2) rfl (by kernel_rfl) (by kernel_rfl) (by kernel_rfl) (fun _ _ _ h => h) (Or.inl ⟨by rfl, ?_⟩) ?_
  · intro w _
    go_simp
    try exact IntWalk.i64_in _ (by omega)
    try omega
  (try dsimp only [List.getElem_toArray, List.getElem_cons_succ, List.getElem_cons_zero]); (try go_frame)
  refine wpAnyC_take (i := 8) (v := .bool true) rfl (by kernel_rfl) (by kernel_rfl) (by kernel_rfl) (fun _ _ _ h => h) (Or.inl ⟨by rfl, ?_⟩) ?_
  · intro w _
    go_simp
    try exact IntWalk.i64_in _ (by omega)
    try omega
  (try dsimp only [List.getElem_toArray, List.getElem_cons_succ, List.getElem_cons_zero]); (try go_frame)
  refine wpAnyC_take (i := 9) (v := .bool true) rfl (by kernel_rfl) (by kernel_rfl) (by kernel_rfl) (fun _ _ _ h => h) (Or.inl ⟨by rfl, ?_⟩) ?_
  · intro w _
    go_simp
    try exact IntWalk.i64_in _ (by omega)
    try omega
  (try dsimp only [List.getElem_toArray, List.getElem_cons_succ, List.getElem_cons_zero]); (try go_frame)
  refine wpAnyC_take (i := 10) (v := .bool true) rfl (by kernel_rfl) (by kernel_rfl) (by kernel_rfl) (fun _ _ _ h => h) (Or.inl ⟨by rfl, ?_⟩) ?_
  · intro w _
    go_simp
    try exact IntWalk.i64_in _ (by omega)
    try omega
  (try dsimp only [List.getElem_toArray, List.getElem_cons_succ, List.getElem_cons_zero]); (try go_frame)
  refine wpAnyC_take (i := 11) (v := u2) rfl (by kernel_rfl) (by kernel_rfl) (by kernel_rfl) (fun _ _ _ h => h) (Or.inl ⟨by rfl, ?_⟩) ?_
  · intro w _
    go_simp
    try exact IntWalk.i64_in _ (by omega)
    try omega
  (try dsimp only [List.getElem_toArray, List.getElem_cons_succ, List.getElem_cons_zero]); (try go_frame)
  refine wpAnyC_take (i := 12) (v := .slice (some ⟨b, o, none⟩) 5 cap) rfl (by kernel_rfl) (by kernel_rfl) (by kernel_rfl) (fun _ _ _ h => h) (Or.inl ⟨by rfl, ?_⟩) ?_
  · intro w _
    go_simp
    try exact IntWalk.i64_in _ (by omega)
    try omega
  (try dsimp only [List.getElem_toArray, List.getElem_cons_succ, List.getElem_cons_zero]); (try go_frame)
  refine wpAnyC_take (i := 13) (v := .pointer (some ⟨b, o + 96, none⟩)) rfl (by kernel_rfl) (by kernel_rfl) (by kernel_rfl) (fun _ _ _ h => h) (Or.inl ⟨by rfl, ?_⟩) ?_
  · intro w _
    go_simp
    try exact IntWalk.i64_in _ (by omega)
    try omega
  (try dsimp only [List.getElem_toArray, List.getElem_cons_succ, List.getElem_cons_zero]); (try go_frame)
  refine wpAnyC_take (i := 14) (v := hv A3) rfl (by kernel_rfl) (by kernel_rfl) (by kernel_rfl) (fun _ _ _ h => h) (YieldsW.load_hc (by rfl) 25 _ rfl ⟨b, o + 96, none⟩ rfl A3 _ C3.out Tryd.underlying25 rfl S3.out) ?_
  (try dsimp only [List.getElem_toArray, List.getElem_cons_succ, List.getElem_cons_zero]); (try go_frame)
  refine wpAnyC_take (i := 15) (v := .slice (some ⟨b, o, none⟩) 5 cap) rfl (by kernel_rfl) (by kernel_rfl) (by kernel_rfl) (fun _ _ _ h => h) (Or.inl ⟨by rfl, ?_⟩) ?_
  · intro w _
    go_simp
    try exact IntWalk.i64_in _ (by omega)
    try omega
  (try dsimp only [List.getElem_toArray, List.getElem_cons_succ, List.getElem_cons_zero]); (try go_frame)
  refine wpAnyC_take (i := 16) (v := .pointer (some ⟨b, o, none⟩)) rfl (by kernel_rfl) (by kernel_rfl) (by kernel_rfl) (fun _ _ _ h => h) (Or.inl ⟨by rfl, ?_⟩) ?_
  · intro w _
    go_simp
    try exact IntWalk.i64_in _ (by omega)
    try omega
  (try dsimp only [List.getElem_toArray, List.getElem_cons_succ, List.getElem_cons_zero]); (try go_frame)
  refine wpAnyC_take (i := 17) (v := hv A0) rfl (by kernel_rfl) (by kernel_rfl) (by kernel_rfl) (fun _ _ _ h => h) (YieldsW.load_hc (by rfl) 25 _ rfl ⟨b, o, none⟩ rfl A0 _ C0.out Tryd.underlying25 rfl S0.out) ?_
  (try dsimp only [List.getElem_toArray, List.getElem_cons_succ, List.getElem_cons_zero]); (try go_frame)
  refine wpAnyC_take (i := 18) (v := .slice (some ⟨b, o, none⟩) 5 cap) rfl (by kernel_rfl) (by kernel_rfl) (by kernel_rfl) (fun _ _ _ h => h) (Or.inl ⟨by rfl, ?_⟩) ?_
  · intro w _
    go_simp
    try exact IntWalk.i64_in _ (by omega)
    try omega
  (try dsimp only [List.getElem_toArray, List.getElem_cons_succ, List.getElem_cons_zero]); (try go_frame)
  refine wpAnyC_take (i := 19) (v := .pointer (some ⟨b, o + 32, none⟩)) rfl (by kernel_rfl) (by kernel_rfl) (by kernel_rfl) (fun _ _ _ h => h) (Or.inl ⟨by rfl, ?_⟩) ?_
  · intro w _
    go_simp
    try exact IntWalk.i64_in _ (by omega)
    try omega
  (try dsimp only [List.getElem_toArray, List.getElem_cons_succ, List.getElem_cons_zero]); (try go_frame)
  refine wpAnyC_take (i := 20) (v := hv A1) rfl (by kernel_rfl) (by kernel_rfl) (by kernel_rfl) (fun _ _ _ h => h) (YieldsW.load_hc (by rfl) 25 _ rfl ⟨b, o + 32, none⟩ rfl A1 _ C1.out Tryd.underlying25 rfl S1.out) ?_
  (try dsimp only [List.getElem_toArray, List.getElem_cons_succ, List.getElem_cons_zero]); (try go_frame)
  refine wpAnyC_take (i := 22) (v := .slice (some ⟨b, o, none⟩) 5 cap) rfl (by kernel_rfl) (by kernel_rfl) (by kernel_rfl) (fun _ _ _ h => h) (Or.inl ⟨by rfl, ?_⟩) ?_
  · intro w _
    go_simp
    try exact IntWalk.i64_in _ (by omega)
    try omega
  (try dsimp only [List.getElem_toArray, List.getElem_cons_succ, List.getElem_cons_zero]); (try go_frame)
  refine wpAnyC_take (i := 23) (v := .pointer (some ⟨b, o + 128, none⟩)) rfl (by kernel_rfl) (by kernel_rfl) (by kernel_rfl) (fun _ _ _ h => h) (Or.inl ⟨by rfl, ?_⟩) ?_
  · intro w _
    go_simp
    try exact IntWalk.i64_in _ (by omega)
    try omega
  (try dsimp only [List.getElem_toArray, List.getElem_cons_succ, List.getElem_cons_zero]); (try go_frame)
  refine wpAnyC_take (i := 24) (v := hv A4) rfl (by kernel_rfl) (by kernel_rfl) (by kernel_rfl) (fun _ _ _ h => h) (YieldsW.load_hc (by rfl) 25 _ rfl ⟨b, o + 128, none⟩ rfl A4 _ C4.out Tryd.underlying25 rfl S4.out) ?_
  (try dsimp only [List.getElem_toArray, List.getElem_cons_succ, List.getElem_cons_zero]); (try go_frame)
  refine wpAnyC_forced (i := 21) (by kernel_rfl) rfl (HB7.out) ?_
  (try dsimp only [List.getElem_toArray, List.getElem_cons_succ, List.getElem_cons_zero]); (try go_frame)
  go_wp2_with (go_at_call 16; refine (Nd.out _ (HG.out.later (bth HB6.out HB7.out))).mono ?_; rintro e w8 ⟨rfl, hb8⟩)
  show wpAnyC _ _ _ _ _ _ _ _ _
  have HB8 := hid (bth HB7.out hb8)
  clear hb8
  refine wpAnyC_forced (i := 25) (by kernel_rfl) rfl (HB8.out) ?_
  (try dsimp only [List.getElem_toArray, List.getElem_cons_succ, List.getElem_cons_zero]); (try go_frame)
  refine wpList_buildSlice_hs (by rfl) 22 25 3 _ rfl (hv zero32) [A3, N, A4] (by simp only [List.map_toArray, List.map_cons, List.map_nil]; rfl) rfl (by decide) (by decide) (by intro x hx; simp at hx; rcases hx with rfl | rfl | rfl; exact L3.out; exact HNl.out; exact L4'.out) Tryd.underlying22 Tryd.infoHash2 ?_
  intro w9 hB9 hb9
  refine wpList_nil ?_
  show wpAnyC _ _ _ _ _ _ _ _ _
  (try dsimp only [List.getElem_toArray, List.getElem_cons_succ, List.getElem_cons_zero]); (try go_frame)
  have HV9 := hid (hB9.slh rfl (by intro x hx; simp at hx; rcases hx with rfl | rfl | rfl; exact L3.out; exact HNl.out; exact L4'.out) (by simp [maxLen]))
  have HB9 := hid (bth HB8.out hb9)
  clear hB9 hb9
  generalize w8.heap.size = g9 at *
  have Sm := hid (same_any u2 _ [A3, N, A4] [A3, N, A4] w9 (HU2.out.below HB9.out (Nat.le_refl _)) HV9.out (by simp) (by simp))
  rw [show ([A3, N, A4] == [A3, N, A4]) = true by simp] at Sm
  refine wpAnyC_forced (i := 26) (by kernel_rfl) rfl (HB9.out) ?_
  (try dsimp only [List.getElem_toArray, List.getElem_cons_succ, List.getElem_cons_zero]); (try go_frame)
  go_wp2_with (go_at_call 32; refine Sm.out.mono ?_; rintro e w10 ⟨rfl, hb10⟩)
  show wpAnyC _ _ _ _ _ _ _ _ _
  have HB10 := hid (bth HB9.out hb10)
  clear hb10 Sm HV9
  refine wpAnyC_take (i := 27) (v := .bool true) rfl (by kernel_rfl) (by kernel_rfl) (by kernel_rfl) (fun _ _ _ h => h) (Or.inl ⟨by rfl, ?_⟩) ?_
  · intro w _
    go_simp
    try exact IntWalk.i64_in _ (by omega)
    try omega
  (try dsimp only [List.getElem_toArray, List.getElem_cons_succ, List.getElem_cons_zero]); (try go_frame)
  refine wpAnyC_take (i := 28) (v := .bool true) rfl (by kernel_rfl) (by kernel_rfl) (by kernel_rfl) (fun _ _ _ h => h) (Or.inl ⟨by rfl, ?_⟩) ?_
  · intro w _
    go_simp
    try exact IntWalk.i64_in _ (by omega)
    try omega
  (try dsimp only [List.getElem_toArray, List.getElem_cons_succ, List.getElem_cons_zero]); (try go_frame)
  refine wpAnyC_take (i := 29) (v := u4) rfl (by kernel_rfl) (by kernel_rfl) (by kernel_rfl) (fun _ _ _ h => h) (Or.inl ⟨by rfl, ?_⟩) ?_
  · intro w _
    go_simp
    try exact IntWalk.i64_in _ (by omega)
    try omega
  (try dsimp only [List.getElem_toArray, List.getElem_cons_succ, List.getElem_cons_zero]); (try go_frame)
  refine wpAnyC_take (i := 30) (v := .slice (some ⟨b, o, none⟩) 5 cap) rfl (by kernel_rfl) (by kernel_rfl) (by kernel_rfl) (fun _ _ _ h => h) (Or.inl ⟨by rfl, ?_⟩) ?_
  · intro w _
    go_simp
    try exact IntWalk.i64_in _ (by omega)
    try omega
  (try dsimp only [List.getElem_toArray, List.getElem_cons_succ, List.getElem_cons_zero]); (try go_frame)
  refine wpAnyC_take (i := 31) (v := .slice (some ⟨b, o, none⟩) 4 cap) rfl (by kernel_rfl) (by kernel_rfl) (by kernel_rfl) (fun _ _ _ h => h) (Or.inl ⟨by rfl, ?_⟩) ?_
  · intro w _
    go_simp
    try exact IntWalk.i64_in _ (by omega)
    try omega
  (try dsimp only [List.getElem_toArray, List.getElem_cons_succ, List.getElem_cons_zero]); (try go_frame)
  refine wpAnyC_forced (i := 32) (by kernel_rfl) rfl (HB10.out) ?_
  (try dsimp only [List.getElem_toArray, List.getElem_cons_succ, List.getElem_cons_zero]); (try go_frame)
  go_wp2_with (go_at_call 13; refine (Rt4.out _ _ (Hs4.out.below HB10.out (Nat.le_refl _)) (HG.out.later (bth HB6.out HB10.out))).mono ?_; rintro e w11 ⟨rfl, hb11⟩)
  show wpAnyC _ _ _ _ _ _ _ _ _
  have HB11 := hid (bth HB10.out hb11)
  clear hb11
  refine wpAnyC_forced (i := 33) (by kernel_rfl) rfl (HB11.out) ?_
  (try dsimp only [List.getElem_toArray, List.getElem_cons_succ, List.getElem_cons_zero]); (try go_frame)
  refine wpList_buildSlice_hs (by rfl) 22 25 1 _ rfl (hv zero32) [R4] (by simp only [List.map_toArray, List.map_cons, List.map_nil]; rfl) rfl (by decide) (by decide) (by intro x hx; simp at hx; rw [hx]; exact HR4l.out) Tryd.underlying22 Tryd.infoHash2 ?_
  intro w12 hB12 hb12
  refine wpList_nil ?_
  show wpAnyC _ _ _ _ _ _ _ _ _
  (try dsimp only [List.getElem_toArray, List.getElem_cons_succ, List.getElem_cons_zero]); (try go_frame)
  have HV12 := hid (hB12.slh rfl (by intro x hx; simp at hx; rw [hx]; exact HR4l.out) (by simp [maxLen]))
  have HB12 := hid (bth HB11.out hb12)
  clear hB12 hb12
  generalize w11.heap.size = g12 at *
  have Sm := hid (same_any u4 _ [R4] [R4] w12 (HU4.out.below HB12.out (Nat.le_refl _)) HV12.out (by simp) (by simp))
  rw [show ([R4] == [R4]) = true by simp] at Sm
  refine wpAnyC_forced (i := 34) (by kernel_rfl) rfl (HB12.out) ?_
  (try dsimp only [List.getElem_toArray, List.getElem_cons_succ, List.getElem_cons_zero]); (try go_frame)
  go_wp2_with (go_at_call 32; refine Sm.out.mono ?_; rintro e w13 ⟨rfl, hb13⟩)
  show wpAnyC _ _ _ _ _ _ _ _ _
  have HB13 := hid (bth HB12.out hb13)
  clear hb13 Sm HV12
  refine wpAnyC_take (i := 35) (v := .bool true) rfl (by kernel_rfl) (by kernel_rfl) (by kernel_rfl) (fun _ _ _ h => h) (Or.inl ⟨by rfl, ?_⟩) ?_
  · intro w _
    go_simp
    try exact IntWalk.i64_in _ (by omega)
    try omega
  (try dsimp only [List.getElem_toArray, List.getElem_cons_succ, List.getElem_cons_zero]); (try go_frame)
  refine wpAnyC_take (i := 36) (v := .bool true) rfl (by kernel_rfl) (by kernel_rfl) (by kernel_rfl) (fun _ _ _ h => h) (Or.inl ⟨by rfl, ?_⟩) ?_
  · intro w _
    go_simp
    try exact IntWalk.i64_in _ (by omega)
    try omega
  (try dsimp only [List.getElem_toArray, List.getElem_cons_succ, List.getElem_cons_zero]); (try go_frame)
  refine wpAnyC_take (i := 37) (v := .slice (some ⟨b, o, none⟩) 5 cap) rfl (by kernel_rfl) (by kernel_rfl) (by kernel_rfl) (fun _ _ _ h => h) (Or.inl ⟨by rfl, ?_⟩) ?_
  · intro w _
    go_simp
    try exact IntWalk.i64_in _ (by omega)
    try omega
  (try dsimp only [List.getElem_toArray, List.getElem_cons_succ, List.getElem_cons_zero]); (try go_frame)
  refine wpAnyC_take (i := 38) (v := .pointer (some ⟨b, o + 128, none⟩)) rfl (by kernel_rfl) (by kernel_rfl) (by kernel_rfl) (fun _ _ _ h => h) (Or.inl ⟨by rfl, ?_⟩) ?_
  · intro w _
    go_simp
    try exact IntWalk.i64_in _ (by omega)
    try omega
  (try dsimp only [List.getElem_toArray, List.getElem_cons_succ, List.getElem_cons_zero]); (try go_frame)
  refine wpAnyC_take (i := 39) (v := hv A4) rfl (by kernel_rfl) (by kernel_rfl) (by kernel_rfl) (fun _ _ _ h => h) (YieldsW.load_hc (by rfl) 25 _ rfl ⟨b, o + 128, none⟩ rfl A4 _ C4.out Tryd.underlying25 rfl S4.out) ?_
  (try dsimp only [List.getElem_toArray, List.getElem_cons_succ, List.getElem_cons_zero]); (try go_frame)
  refine wpAnyC_take (i := 40) (v := u4) rfl (by kernel_rfl) (by kernel_rfl) (by kernel_rfl) (fun _ _ _ h => h) (Or.inl ⟨by rfl, ?_⟩) ?_
  · intro w _
    go_simp
    try exact IntWalk.i64_in _ (by omega)
    try omega
  (try dsimp only [List.getElem_toArray, List.getElem_cons_succ, List.getElem_cons_zero]); (try go_frame)
  refine wpAnyC_take (i := 41) (v := hv R) rfl (by kernel_rfl) (by kernel_rfl) (by kernel_rfl) (fun _ _ _ h => h) (YieldsW.load_hc (by rfl) 25 _ rfl ⟨g8, 0, none⟩ rfl R _ CR.out Tryd.underlying25 rfl SR.out) ?_
  (try dsimp only [List.getElem_toArray, List.getElem_cons_succ, List.getElem_cons_zero]); (try go_frame)
  have Ck := hid (check_any A4 4 5 u4 [R4] R w13 L4'.out HRl.out (by simp) (HU4.out.below HB13.out (Nat.le_refl _)) (HG.out.later (bth HB6.out HB13.out)))
  rw [E4.out] at Ck
  refine wpAnyC_forced (i := 42) (by kernel_rfl) rfl (HB13.out) ?_
  (try dsimp only [List.getElem_toArray, List.getElem_cons_succ, List.getElem_cons_zero]); (try go_frame)
  go_wp2_with (go_at_call 33; refine Ck.out.mono ?_; rintro e w14 ⟨rfl, hb14⟩)
  show wpAnyC _ _ _ _ _ _ _ _ _
  have HB14 := hid (bth HB13.out hb14)
  clear hb14 Ck
  refine wpAnyC_take (i := 43) (v := .bool true) rfl (by kernel_rfl) (by kernel_rfl) (by kernel_rfl) (fun _ _ _ h => h) (Or.inl ⟨by rfl, ?_⟩) ?_
  · intro w _
    go_simp
    try exact IntWalk.i64_in _ (by omega)
    try omega
  (try dsimp only [List.getElem_toArray, List.getElem_cons_succ, List.getElem_cons_zero]); (try go_frame)
  refine wpAnyC_take (i := 44) (v := .bool true) rfl (by kernel_rfl) (by kernel_rfl) (by kernel_rfl) (fun _ _ _ h => h) (Or.inl ⟨by rfl, ?_⟩) ?_
  · intro w _
    go_simp
    try exact IntWalk.i64_in _ (by omega)
    try omega
  (try dsimp only [List.getElem_toArray, List.getElem_cons_succ, List.getElem_cons_zero]); (try go_frame)
  refine wpAnyC_take (i := 45) (v := .bool true) rfl (by kernel_rfl) (by kernel_rfl) (by kernel_rfl) (fun _ _ _ h => h) (Or.inl ⟨by rfl, ?_⟩) ?_
  · intro w _
    go_simp
    try exact IntWalk.i64_in _ (by omega)
    try omega
  (try dsimp only [List.getElem_toArray, List.getElem_cons_succ, List.getElem_cons_zero]); (try go_frame)
  refine wpAnyC_take (i := 46) (v := .slice (some ⟨b, o, none⟩) 5 cap) rfl (by kernel_rfl) (by kernel_rfl) (by kernel_rfl) (fun _ _ _ h => h) (Or.inl ⟨by rfl, ?_⟩) ?_
  · intro w _
    go_simp
    try exact IntWalk.i64_in _ (by omega)
    try omega
  (try dsimp only [List.getElem_toArray, List.getElem_cons_succ, List.getElem_cons_zero]); (try go_frame)
  refine wpAnyC_take (i := 47) (v := .pointer (some ⟨b, o + 64, none⟩)) rfl (by kernel_rfl) (by kernel_rfl) (by kernel_rfl) (fun _ _ _ h => h) (Or.inl ⟨by rfl, ?_⟩) ?_
  · intro w _
    go_simp
    try exact IntWalk.i64_in _ (by omega)
    try omega
  (try dsimp only [List.getElem_toArray, List.getElem_cons_succ, List.getElem_cons_zero]); (try go_frame)
  refine wpAnyC_take (i := 48) (v := hv A2) rfl (by kernel_rfl) (by kernel_rfl) (by kernel_rfl) (fun _ _ _ h => h) (YieldsW.load_hc (by rfl) 25 _ rfl ⟨b, o + 64, none⟩ rfl A2 _ C2.out Tryd.underlying25 rfl S2.out) ?_
  (try dsimp only [List.getElem_toArray, List.getElem_cons_succ, List.getElem_cons_zero]); (try go_frame)
  refine wpAnyC_take (i := 49) (v := u4) rfl (by kernel_rfl) (by kernel_rfl) (by kernel_rfl) (fun _ _ _ h => h) (Or.inl ⟨by rfl, ?_⟩) ?_
  · intro w _
    go_simp
    try exact IntWalk.i64_in _ (by omega)
    try omega
  (try dsimp only [List.getElem_toArray, List.getElem_cons_succ, List.getElem_cons_zero]); (try go_frame)
  refine wpAnyC_take (i := 50) (v := hv R) rfl (by kernel_rfl) (by kernel_rfl) (by kernel_rfl) (fun _ _ _ h => h) (YieldsW.load_hc (by rfl) 25 _ rfl ⟨g8, 0, none⟩ rfl R _ CR.out Tryd.underlying25 rfl SR.out) ?_
  (try dsimp only [List.getElem_toArray, List.getElem_cons_succ, List.getElem_cons_zero]); (try go_frame)
  have Ck := hid (check_any A2 2 5 u4 [R4] R w14 L2.out HRl.out (by simp) (HU4.out.below HB14.out (Nat.le_refl _)) (HG.out.later (bth HB6.out HB14.out)))
  rw [E2.out] at Ck
  refine wpAnyC_forced (i := 51) (by kernel_rfl) rfl (HB14.out) ?_
  (try dsimp only [List.getElem_toArray, List.getElem_cons_succ, List.getElem_cons_zero]); (try go_frame)
  go_wp2_with (go_at_call 33; refine Ck.out.mono ?_; rintro e w15 ⟨rfl, hb15⟩)
  show wpAnyC _ _ _ _ _ _ _ _ _
  have HB15 := hid (bth HB14.out hb15)
  clear hb15 Ck
  refine wpAnyC_take (i := 52) (v := .bool true) rfl (by kernel_rfl) (by kernel_rfl) (by kernel_rfl) (fun _ _ _ h => h) (Or.inl ⟨by rfl, ?_⟩) ?_
  · intro w _
    go_simp
    try exact IntWalk.i64_in _ (by omega)
    try omega
  (try dsimp only [List.getElem_toArray, List.getElem_cons_succ, List.getElem_cons_zero]); (try go_frame)
  refine wpAnyC_take (i := 53) (v := .bool true) rfl (by kernel_rfl) (by kernel_rfl) (by kernel_rfl) (fun _ _ _ h => h) (Or.inl ⟨by rfl, ?_⟩) ?_
  · intro w _
    go_simp
    try exact IntWalk.i64_in _ (by omega)
    try omega
  (try dsimp only [List.getElem_toArray, List.getElem_cons_succ, List.getElem_cons_zero]); (try go_frame)
  refine wpAnyC_take (i := 54) (v := .bool true) rfl (by kernel_rfl) (by kernel_rfl) (by kernel_rfl) (fun _ _ _ h => h) (Or.inl ⟨by rfl, ?_⟩) ?_
  · intro w _
    go_simp
    try exact IntWalk.i64_in _ (by omega)
    try omega
  (try dsimp only [List.getElem_toArray, List.getElem_cons_succ, List.getElem_cons_zero]); (try go_frame)
  refine wpAnyC_done (by kernel_rfl) HB15.out ?_ _
  go_wp2
  go_ret
  exact ⟨rfl, bth HB6.out HB15.out⟩
end Go.Proofs.YtdllaenbkfajdaaDoor
