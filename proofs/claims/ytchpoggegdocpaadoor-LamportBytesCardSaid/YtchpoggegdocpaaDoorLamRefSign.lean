/- speculumref08.Sign -/
import Derived.Test.YtchpoggegdocpaaDoorLamRecBad
import Derived.Test.YtchpoggegdocpaaDoorTreeSame
set_option maxRecDepth 100000
namespace Go.Spec
open Go.RowKit
variable {P : Program}
theorem wp_region_anyv {id : Nat} {ops : Array Oper} {Q : Exit → Act → World → Prop} {a : Act} {w : World} (hm : P.follows .mixedOrders = true)
    (h : ∀ w1 : World, Below w.heap.size w w1 → w1.heap.size = w.heap.size → wpAny P .any ops Q ops.size (Array.replicate ops.size false) a w1) : (Code.region id ops true).wp P Q a w :=
  wp_region_any hm (h _ (Below.refl _ w).drew rfl)
end Go.Spec
namespace Go.Proofs.YtchpoggegdocpaaDoor
open Go.RowKit Go.Spec
set_option maxHeartbeats 1000000 in
theorem rsign_out (seed d : List UInt8) (x : Int) (w : World) (h : x < 0 ∨ 2147483648 ≤ x) :
    Calls Tryd.prog 19 #[sv seed, .int .i64 x, hv d] w fun e w' => e = .returned (sv []) ∧ Below w.heap.size w w' := by
  have P := hid (fun w0 => rpublic_out seed x w0 h)
  clear h
  go_enter Tryd.func19, Tryd.ntmps19
  go_wp2_with (go_at_call 24; refine (P.out _).mono ?_; rintro e w1 ⟨rfl, rfl⟩)
  go_ret
  exact ⟨rfl, (Below.refl _ _).alloc (Nat.le_refl _) _⟩
set_option maxHeartbeats 4000000 in
theorem rsign_in (seed d : List UInt8) (a : Nat) (w : World) (hs : seed.length ≤ 1000000) (hdl : d.length = 32) (hia : a < 2147483648) :
    Calls Tryd.prog 19 #[sv seed, .int .i64 (a : Int), hv d] w fun e w' => e = .returned (sv (signL seed a d)) ∧ Below w.heap.size w w' := by
  obtain ⟨i0, hi, hz0, hz1, hz2⟩ := info_parts Tryd.infoU8L
  have HA : Below w.heap.size w (w.alloc (.cells (hc d) 42)) := (Below.refl _ w).alloc (Nat.le_refl _) _
  have hBd : Blk (w.alloc (.cells (hc d) 42)) w.heap.size (hc d) 42 := Blk.new _ _ _
  have P := hid (fun w0 => rpublic_in seed a w0 hs hia)
  have HD := hid hdl
  go_enter Tryd.func19, Tryd.ntmps19
  go_wp2_with fail
  refine (P.out _).mono ?_
  rintro e w1 ⟨⟨vp, rfl, hP⟩, hb1⟩
  obtain ⟨gp, cp, rfl, hgp, hgl, hcp, _⟩ := ownsRow_some hP (by omega)
  have hSl := SlAt.of_owns (size := 32) (hs := pubs seed a 512) (by rw [pubs_len]; exact hP) (pubs_32 seed a 512)
  have hB1 := hBd.later hb1
  have HB1 := hid (bth HA hb1)
  have HS := hid hSl
  clear hP hBd hb1 HA hSl
  have HBd := hid hB1
  go_wp2_with fail
  go_loopw [8, 9, 10] (fun v8 v9 i wr => ∃ k : Nat, k ≤ 256 ∧ i = .int .i64 (k : Int) ∧ wr.ownsRow w1.heap.size 5 1 v8 (sec1 seed a d k).length ((sec1 seed a d k).map bcell) ∧ wr.ownsRow w1.heap.size 5 1 v9 (oth1 seed a d k).length ((oth1 seed a d k).map bcell) ∧ (∀ b, v8.ownBlock = some b → v9.ownBlock ≠ some b) ∧ Below w1.heap.size w1 wr) (fun _ _ i _ => 256 - (intOf i).toNat)
  case atStart => exact ⟨0, by omega, rfl, World.ownsRow_nil _ _ _ _, World.ownsRow_nil _ _ _ _, (fun b h => by cases h), Below.refl _ _⟩
  case round =>
    obtain ⟨k, hk, rfl, h8, h9, h89, hb⟩ := hrel
    have H8 := hid h8; have H9 := hid h9; have H89 := hid h89
    clear h8 h9 h89
    obtain ⟨a8, c8, rfl, hc8⟩ := ownsRow_form H8.out
    obtain ⟨a9, c9, rfl, hc9⟩ := ownsRow_form H9.out
    have hl1 := sec1_len seed a d k
    have hl2 := oth1_len seed a d k
    by_cases hlt : k < 256
    · have hdk : decide ((k : Int) < 256) = true := by simp; omega
      have hbl := bitL_lt d k
      have HBit := hid (fun w0 => rbit_any d k w0 hdl hlt)
      have N1 := hid (sec1_next seed a d k)
      have N2 := hid (oth1_next seed a d k)
      generalize bitL d k = bt at *
      obtain ⟨m, hm⟩ : ∃ m, 2 * k + 1 - bt = m := ⟨_, rfl⟩
      have em : 2 * (k : Int) + 1 - (bt : Int) = (m : Int) := by omega
      have hm5 : m < 512 := by omega
      rw [hm] at N2
      have S := hid (fun w0 => rsecret_in seed a k bt w0 hs hia hlt (by omega))
      have HX := hid (secN_len seed a k bt)
      have HY := hid (show (pubN seed a m).length = 32 from shownL_len _)
      have Hsx := hid (show (Tryd.prog.info? 42).map (·.size) = some (secN seed a k bt).length by rw [HX.out]; exact Tryd.sizeHash)
      have Hpm := hid (show (pubs seed a 512)[m]? = some (pubN seed a m) by unfold pubs; rw [List.getElem?_map, List.getElem?_range hm5]; rfl)
      have hl1b : (sec1 seed a d k).length ≤ 10000 := by omega
      have hl2b : (oth1 seed a d k).length ≤ 10000 := by omega
      clear hl1 hl2 hm hdl
      generalize secN seed a k bt = X at *
      generalize pubN seed a m = Y at *
      generalize sec1 seed a d k = L1 at *
      generalize oth1 seed a d k = L2 at *
      have hcv := (HBd.out.later hb).convHead (P := Tryd.prog) (k := 32) (n := 32) (by rw [HD.out]; omega) 35 9 5 Tryd.underlying35 Tryd.underlying5 Tryd.underlying9
      rw [List.take_of_length_le (by rw [HD.out]; omega)] at hcv
      go_upto_region 10 with (first
        | (go_at_call 40; refine (HBit.out _).mono ?_; rintro e w7 ⟨rfl, rfl⟩)
        | (go_at_call 21; refine (S.out _).mono ?_; rintro e w3 ⟨rfl, hb3⟩)
        | ((with_reducible show wpList _ _ _ ({ dst := _, op := Op.store _ _ _, type := _, pos := _, after := _, guard := _ } :: _) _ _); refine wpList_store_new rfl 42 _ _ rfl rfl X rfl (hc zero32) 42 (by rw [HX.out]; rfl) Hsx.out ?_))
      have H8a := hid ((ownsRow_fr H8.out (Fr.of_below hb3 (fun _ => False)) (fun _ _ h => h)).alloc (.cells (hc X) 42))
      have H9a := hid ((ownsRow_fr H9.out (Fr.of_below hb3 (fun _ => False)) (fun _ _ h => h)).alloc (.cells (hc X) 42))
      have Hba := hid ((bth hb hb3).alloc (bth hb hb3).size (.cells (hc X) 42))
      have HXa := hid (Blk.new w3 (hc X) 42)
      clear hb hb3 hcv
      show Code.wp _ _ _ _ (w3.alloc (.cells (hc X) 42))
      generalize hwa : w3.alloc (.cells (hc X) 42) = wa at *
      have hcx := row_alloc (w := w3) (cs := hc X) (t := 42) (fr := (0, 0))
      rw [hwa, hc_toList] at hcx
      have hxl : w3.heap.size < wa.heap.size := by rw [← hwa]; simp
      generalize hgx : w3.heap.size = gx at *
      clear hwa hgx
      have Hcx := hid hcx
      clear hcx HXa
      refine wp_region_anyv (by kernel_rfl) ?_
      intro w4 hb4 hz4
      have H8b := hid (ownsRow_fr H8a.out (Fr.of_below hb4 (fun _ => False)) (fun _ _ h => h))
      have H9b := hid (ownsRow_fr H9a.out (Fr.of_below hb4 (fun _ => False)) (fun _ _ h => h))
      have Hbb := hid (bth Hba.out hb4)
      have Hcx4 := hid (fun j u (hj : (X.map bcell)[j]? = some u) => show w4.cell? ((⟨gx, 0, none⟩ : Addr).add j) = some u from by
        have h1 := Hcx.out j u hj
        rw [Addr.add_lit] at h1 ⊢
        exact (hb4.cell (p := ⟨gx, 0 + j, none⟩) hxl).trans h1)
      clear H8a H9a Hba Hcx hb4
      show wpAny _ _ _ _ 15 (Array.replicate 15 false) _ _
      refine wpAny_take (i := 0) (v := .slice a8 L1.length c8) rfl (by kernel_rfl) (by kernel_rfl) (by kernel_rfl) (fun _ _ _ h => h) (Or.inl ⟨by rfl, ?_⟩) ?_
      · intro w
        go_simp
        try exact IntWalk.i64_in _ (by omega)
        try omega
      simp only [List.getElem_toArray, List.getElem_cons_succ, List.getElem_cons_zero, Act.put, List.setIfInBounds_toArray, List.set_cons_succ, List.set_cons_zero]
      refine wpAny_take (i := 1) (v := .slice (some ⟨gx, 0, none⟩) 32 32) rfl (by kernel_rfl) (by kernel_rfl) (by kernel_rfl) (fun _ _ _ h => h) (Or.inl ⟨by rfl, ?_⟩) ?_
      · intro w
        go_simp
        try exact IntWalk.i64_in _ (by omega)
        try omega
      simp only [List.getElem_toArray, List.getElem_cons_succ, List.getElem_cons_zero, Act.put, List.setIfInBounds_toArray, List.set_cons_succ, List.set_cons_zero]
      refine wpAny_take (i := 3) (v := .slice a9 L2.length c9) rfl (by kernel_rfl) (by kernel_rfl) (by kernel_rfl) (fun _ _ _ h => h) (Or.inl ⟨by rfl, ?_⟩) ?_
      · intro w
        go_simp
        try exact IntWalk.i64_in _ (by omega)
        try omega
      simp only [List.getElem_toArray, List.getElem_cons_succ, List.getElem_cons_zero, Act.put, List.setIfInBounds_toArray, List.set_cons_succ, List.set_cons_zero]
      refine wpAny_take (i := 4) (v := .slice (some ⟨gp, 0, none⟩) 512 cp) rfl (by kernel_rfl) (by kernel_rfl) (by kernel_rfl) (fun _ _ _ h => h) (Or.inl ⟨by rfl, ?_⟩) ?_
      · intro w
        go_simp
        try exact IntWalk.i64_in _ (by omega)
        try omega
      simp only [List.getElem_toArray, List.getElem_cons_succ, List.getElem_cons_zero, Act.put, List.setIfInBounds_toArray, List.set_cons_succ, List.set_cons_zero]
      refine wpAny_take (i := 5) (v := .int .i64 (k : Int)) rfl (by kernel_rfl) (by kernel_rfl) (by kernel_rfl) (fun _ _ _ h => h) (Or.inl ⟨by rfl, ?_⟩) ?_
      · intro w
        go_simp
        try exact IntWalk.i64_in _ (by omega)
        try omega
      simp only [List.getElem_toArray, List.getElem_cons_succ, List.getElem_cons_zero, Act.put, List.setIfInBounds_toArray, List.set_cons_succ, List.set_cons_zero]
      refine wpAny_take (i := 6) (v := .int .i64 (2 * (k : Int))) rfl (by kernel_rfl) (by kernel_rfl) (by kernel_rfl) (fun _ _ _ h => h) (Or.inl ⟨by rfl, ?_⟩) ?_
      · intro w
        go_simp
        try exact IntWalk.i64_in _ (by omega)
        try omega
      simp only [List.getElem_toArray, List.getElem_cons_succ, List.getElem_cons_zero, Act.put, List.setIfInBounds_toArray, List.set_cons_succ, List.set_cons_zero]
      refine wpAny_take (i := 7) (v := .int .i64 (2 * (k : Int) + 1)) rfl (by kernel_rfl) (by kernel_rfl) (by kernel_rfl) (fun _ _ _ h => h) (Or.inl ⟨by rfl, ?_⟩) ?_
      · intro w
        go_simp
        try exact IntWalk.i64_in _ (by omega)
        try omega
      simp only [List.getElem_toArray, List.getElem_cons_succ, List.getElem_cons_zero, Act.put, List.setIfInBounds_toArray, List.set_cons_succ, List.set_cons_zero]
      refine wpAny_take (i := 8) (v := .int .i64 (bt : Int)) rfl (by kernel_rfl) (by kernel_rfl) (by kernel_rfl) (fun _ _ _ h => h) (Or.inl ⟨by rfl, ?_⟩) ?_
      · intro w
        go_simp
        try exact IntWalk.i64_in _ (by omega)
        try omega
      simp only [List.getElem_toArray, List.getElem_cons_succ, List.getElem_cons_zero, Act.put, List.setIfInBounds_toArray, List.set_cons_succ, List.set_cons_zero]
      refine wpAny_take (i := 9) (v := .int .i64 (m : Int)) rfl (by kernel_rfl) (by kernel_rfl) (by kernel_rfl) (fun _ _ _ h => h) (Or.inl ⟨by rfl, ?_⟩) ?_
      · intro w
        go_simp
        try exact IntWalk.i64_in _ (by omega)
        try omega
      simp only [List.getElem_toArray, List.getElem_cons_succ, List.getElem_cons_zero, Act.put, List.setIfInBounds_toArray, List.set_cons_succ, List.set_cons_zero]
      refine wpAny_take (i := 10) (v := .pointer (some ⟨gp, m * 32, none⟩)) rfl (by kernel_rfl) (by kernel_rfl) (by kernel_rfl) (fun _ _ _ h => h) (Or.inl ⟨by rfl, ?_⟩) ?_
      · intro w
        go_simp
        try exact IntWalk.i64_in _ (by omega)
        try omega
      simp only [List.getElem_toArray, List.getElem_cons_succ, List.getElem_cons_zero, Act.put, List.setIfInBounds_toArray, List.set_cons_succ, List.set_cons_zero]
      refine wpAny_take (i := 11) (v := .slice (some ⟨gp, m * 32, none⟩) 32 32) rfl (by kernel_rfl) (by kernel_rfl) (by kernel_rfl) (fun _ _ _ h => h) (Or.inl ⟨by rfl, ?_⟩) ?_
      · intro w
        go_simp
        try exact IntWalk.i64_in _ (by omega)
        try omega
      simp only [List.getElem_toArray, List.getElem_cons_succ, List.getElem_cons_zero, Act.put, List.setIfInBounds_toArray, List.set_cons_succ, List.set_cons_zero]
      have hbs := Hbb.out.size
      refine wpAny_forced (i := 2) (by kernel_rfl) rfl ?_
      simp only [List.getElem_toArray, List.getElem_cons_succ, List.getElem_cons_zero, Act.put, List.setIfInBounds_toArray, List.set_cons_succ, List.set_cons_zero]
      refine wpList_app rfl _ _ 35 rfl w1.heap.size 5 i0 (.int .u8 0) 1 1 Tryd.underlying35 hi hz0 hz1 hz2 rfl (by decide) (.slice a8 L1.length c8) L1.length (L1.map bcell) rfl H8b.out ⟨gx, 0, none⟩ 32 32 (X.map bcell) rfl ?c2 Hcx4.out (bcell_one X) ?c5 ?c6 hbs ?_
      case c2 => simp [HX.out]
      case c5 => unfold maxLen; omega
      case c6 => omega
      intro v8 w5 h8n hg8 hat8
      refine wpList_nil ?_
      have hsz4 := Hbb.out.size
      have Hb5 := hid (Hbb.out.grown hg8 hbs (fun q hq => (H8b.out.lt q hq).1))
      have H9c := hid (H9b.out.kept hg8 (by
        cases h : Value.ownBlock (.slice a8 L1.length c8) with
        | none => exact Classical.em _
        | some b => exact .inr (H89.out b h)))
      have H89c := hid (show ∀ b, v8.ownBlock = some b → Value.ownBlock (.slice a9 L2.length c9) ≠ some b from fun b hb h9 => by
        rcases hat8 b hb with h | h
        · exact H89.out b h h9
        · have := (H9b.out.lt b h9).2
          omega)
      have H8c := hid h8n
      have Hcy := hid (show ∀ j u, (Y.map bcell)[j]? = some u → w5.cell? ((⟨gp, m * 32, none⟩ : Addr).add j) = some u by
        have hsl := HS.out.below Hb5.out (Nat.le_refl _)
        obtain ⟨b, o, e1, _, _, h3⟩ := hsl.at (i := m) (cs := Y.map bcell) (by unfold hcs; rw [List.getElem?_map, Hpm.out]; rfl)
        injection e1 with e1
        injection e1 with e2 e3
        subst e2; subst e3
        rw [Nat.zero_add] at h3
        exact h3)
      have hbs5 : w1.heap.size ≤ w5.heap.size := Hb5.out.size
      clear h8n hg8 hat8 H8b H9b Hbb Hcx4
      refine wpAny_forced (i := 12) (by kernel_rfl) rfl ?_
      simp only [List.getElem_toArray, List.getElem_cons_succ, List.getElem_cons_zero, Act.put, List.setIfInBounds_toArray, List.set_cons_succ, List.set_cons_zero]
      refine wpList_app rfl _ _ 35 rfl w1.heap.size 5 i0 (.int .u8 0) 1 1 Tryd.underlying35 hi hz0 hz1 hz2 rfl (by decide) (.slice a9 L2.length c9) L2.length (L2.map bcell) rfl H9c.out ⟨gp, m * 32, none⟩ 32 32 (Y.map bcell) rfl ?d2 Hcy.out (bcell_one Y) ?d5 ?d6 hbs5 ?_
      case d2 => simp [HY.out]
      case d5 => unfold maxLen; omega
      case d6 => omega
      intro v9 w6 h9n hg9 hat9
      refine wpList_nil ?_
      have Hb6 := hid (Hb5.out.grown hg9 hbs5 (fun q hq => (H9c.out.lt q hq).1))
      have H8d := hid (H8c.out.kept hg9 (by
        cases h : v8.ownBlock with
        | none => exact .inl rfl
        | some b => exact .inr (fun h' => H89c.out b h h'.symm)))
      have H89d := hid (show ∀ b, v8.ownBlock = some b → v9.ownBlock ≠ some b from fun b hb h9 => by
        rcases hat9 b h9 with h | h
        · exact H89c.out b hb h
        · have := (H8c.out.lt b hb).2
          omega)
      have H9d := hid h9n
      clear h9n hg9 hat9 H8c H9c H89c Hb5 Hcy
      refine wpAny_take (i := 13) (v := v8) rfl (by kernel_rfl) (by kernel_rfl) (by kernel_rfl) (fun _ _ _ h => h) (Or.inl ⟨by rfl, ?_⟩) ?_
      · intro w
        go_simp
        try exact IntWalk.i64_in _ (by omega)
        try omega
      simp only [List.getElem_toArray, List.getElem_cons_succ, List.getElem_cons_zero, Act.put, List.setIfInBounds_toArray, List.set_cons_succ, List.set_cons_zero]
      refine wpAny_take (i := 14) (v := v9) rfl (by kernel_rfl) (by kernel_rfl) (by kernel_rfl) (fun _ _ _ h => h) (Or.inl ⟨by rfl, ?_⟩) ?_
      · intro w
        go_simp
        try exact IntWalk.i64_in _ (by omega)
        try omega
      simp only [List.getElem_toArray, List.getElem_cons_succ, List.getElem_cons_zero, Act.put, List.setIfInBounds_toArray, List.set_cons_succ, List.set_cons_zero]
      refine wpAny_done (by kernel_rfl) ?_ _
      go_wp2
      go_roundw
      case rel =>
        refine ⟨k + 1, by omega, by go_num, ?_, ?_, H89d.out, Hb6.out⟩
        · rw [N1.out, List.length_append, List.map_append, HX.out]; exact H8d.out
        · rw [N2.out, List.length_append, List.map_append, HY.out]; exact H9d.out
      case measure => simp [intOf]; omega
    · obtain rfl : k = 256 := by omega
      have hdk : decide ((256 : Int) < 256) = false := by decide
      have Hfin := hid (show signL seed a d = sec1 seed a d 256 ++ oth1 seed a d 256 from rfl)
      generalize sec1 seed a d 256 = L1 at *
      generalize oth1 seed a d 256 = L2 at *
      have hbs := hb.size
      have hl1b : L1.length ≤ 10000 := by omega
      have hl2b : L2.length ≤ 10000 := by omega
      have hl2c : 0 < L2.length := by omega
      clear hl1 hl2
      obtain ⟨g9, c9', e9, hg9b, hg9l, hc9', hcell9⟩ := ownsRow_some H9.out (by omega)
      injection e9 with e9 _ _
      subst e9
      have Hcell := hid hcell9
      clear hcell9
      go_wp2_with (at_builtin; go_must (refine wpList_app rfl _ _ 35 rfl w1.heap.size 5 i0 (.int .u8 0) 1 1 Tryd.underlying35 hi hz0 hz1 hz2 rfl (by decide) _ L1.length (L1.map bcell) rfl H8.out ⟨g9, 0, none⟩ L2.length c9 (L2.map bcell) rfl ?d2 Hcell.out (bcell_one L2) ?d5 ?d6 hbs ?_))
      case d5 => unfold maxLen; omega
      case d6 => omega
      intro v' w6 hn hg hat
      have hbn := hb.grown hg hbs (fun q hq => (H8.out.lt q hq).1)
      rw [← List.length_append, ← List.map_append] at hn
      have hcv := run_string_own (P := Tryd.prog) (w := w6) (l := L1 ++ L2) 35 9 5 Tryd.underlying35 Tryd.underlying5 Tryd.underlying9 hn
      obtain ⟨av, cv, rfl, hcv2⟩ := ownsRow_form hn
      clear hn hg hat
      rw [List.length_append] at hcv
      go_wp2
      go_ret
      exact ⟨by rw [Hfin.out]; rfl, HB1.out.trans (hbn.mono HB1.out.size)⟩
end Go.Proofs.YtchpoggegdocpaaDoor
