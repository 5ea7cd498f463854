/- speculumref07.sub, Proof -/
import Derived.Test.YtbpjlancjdbehaaDoorQAnyOp
import Derived.Test.YtbpjlancjdbehaaDoorQSlices
import Derived.Test.YtbpjlancjdbehaaDoorQTreeSplit
import Derived.Maps.RangeWalk
set_option maxRecDepth 100000
namespace Go.Proofs.YtbpjlancjdbehaaDoor
open Go.RowKit Go.Spec
def RSubAt (n : Nat) : Prop := ∀ (hs : List (List UInt8)) (v : Value) (m : Nat) (known : Bool) (w : World), hs.length ≤ n → hs.length ≤ 1000000 → SlAt w 32 v (hcs hs) → 1 ≤ m → m ≤ hs.length →
    Calls Tryd.prog 69 #[v, .int .i64 (m : Int), .bool known] w fun e w' => (∃ u, e = .returned u ∧ w'.ownsRow w.heap.size 29 32 u (subL hs m known).length (hflat (subL hs m known))) ∧ Below w.heap.size w w'
set_option maxHeartbeats 2000000 in
theorem rsub_all (hs : List (List UInt8)) (v : Value) (known : Bool) (w : World) (hl : hs.length ≤ 1000000) (hS : SlAt w 32 v (hcs hs)) (h1 : 1 ≤ hs.length) :
    Calls Tryd.prog 69 #[v, .int .i64 (hs.length : Int), .bool known] w fun e w' => (∃ u, e = .returned u ∧ w'.ownsRow w.heap.size 29 32 u (subL hs hs.length known).length (hflat (subL hs hs.length known))) ∧ Below w.heap.size w w' := by
  rw [sub_all hs known h1]
  obtain ⟨a, cap, rfl, hcap⟩ := hS.formH
  have hd : ((hs.length : Int) == (hs.length : Int)) = true := by simp
  cases known with
  | true =>
    clear hS
    go_enter Tryd.func69, Tryd.ntmps69
    go_wp2
    go_ret
    exact ⟨⟨_, rfl, World.ownsRow_nil _ _ _ _⟩, Below.refl _ _⟩
  | false =>
    have R := hid (rroot_any hs (.slice a hs.length cap) w hl hS)
    have L := rootL_len _ hs (Nat.le_refl _) hS.len32
    generalize rootL hs = S at *
    have LS := hid L
    clear hS L
    go_enter Tryd.func69, Tryd.ntmps69
    go_wp2_with (first
      | (go_at_call 42; refine R.out.mono ?_; rintro e w3 ⟨rfl, hb3⟩)
      | (refine wpList_buildSlice_one rfl 22 29 _ rfl 32 (hv zero32) (hv S) (hc S) rfl Tryd.underlying22 Tryd.infoHash2 rfl (by rw [hc_size, LS.out]) (by decide) (by decide) ?_))
    go_ret
    have hblk : Blk (w3.alloc (.cells (hc S) 29)) w3.heap.size (hc S) 29 := Blk.new _ _ _
    have := hblk.owns (base := w.heap.size) (size := 32) (n := 1) hb3.size (by decide) (by rw [hc_size, LS.out])
    rw [hc_toList] at this
    refine ⟨⟨_, rfl, ?_⟩, hb3.alloc hb3.size _⟩
    simpa [hflat] using this
set_option maxHeartbeats 8000000 in
theorem rsub_many (n : Nat) (ih : RSubAt n) (A : List (List UInt8)) (v : Value) (j : Nat) (known : Bool) (w : World) (hn : A.length ≤ n + 1) (hA1 : A.length ≤ 1000000) (hA : SlAt w 32 v (hcs A)) (h1 : 1 ≤ j) (hj : j < A.length) :
    Calls Tryd.prog 69 #[v, .int .i64 (j : Int), .bool known] w fun e w' => (∃ u, e = .returned u ∧ w'.ownsRow w.heap.size 29 32 u (subL A j known).length (hflat (subL A j known))) ∧ Below w.heap.size w w' := by
  obtain ⟨i0, hi0, hz0, hz1, hz2⟩ := info_parts Tryd.infoHash
  obtain ⟨a, c', rfl, hc'⟩ := hA.formH
  have d2 : ((j : Int) == (A.length : Int)) = false := by rw [beq_eq_false_iff_ne]; omega
  obtain ⟨b, o, rfl, hblt⟩ := hA.addr (by rw [hcs_length]; omega)
  obtain ⟨hk0, hk1⟩ := splitN_in A.length (by omega)
  have hT := hA.takeS (splitN A.length) (by rw [hcs_length]; omega)
  have hD := hA.dropS (splitN A.length) (by rw [hcs_length]; exact hk1)
  rw [hcs_take] at hT
  rw [hcs_drop] at hD
  have Hsp := hid (fun w0 => rsplit_big A.length w0 (by omega) (Nat.le_trans hA1 (by decide)))
  have hA32 := hA.len32
  have lt1 := rootL_len _ (A.take (splitN A.length)) (Nat.le_refl _) (fun x hx => hA32 x (List.mem_of_mem_take hx))
  have lt2 := rootL_len _ (A.drop (splitN A.length)) (Nat.le_refl _) (fun x hx => hA32 x (List.mem_of_mem_drop hx))
  have hpm := sub_many A j known h1 hj
  have hPl := sub_len 20 A j known h1 (by omega) (by omega)
  have e1 : (A.take (splitN A.length)).length = splitN A.length := by rw [List.length_take]; omega
  have e2 : (A.drop (splitN A.length)).length = A.length - splitN A.length := by rw [List.length_drop]
  have hn1 : (A.take (splitN A.length)).length ≤ n := by omega
  have hn2 : (A.drop (splitN A.length)).length ≤ n := by omega
  have hlA1 : (A.take (splitN A.length)).length ≤ 1000000 := by omega
  have hlA2 : (A.drop (splitN A.length)).length ≤ 1000000 := by omega
  generalize A.take (splitN A.length) = A1 at *
  generalize A.drop (splitN A.length) = A2 at *
  generalize splitN A.length = k at *
  have E1 := hid e1; have E2 := hid e2
  clear e1 e2 hn
  have kI : (k : Int) ≤ (A.length : Int) := by omega
  have hkc : k ≠ c' := by omega
  have HT := hid hT; have HD := hid hD
  by_cases hjk : j ≤ k
  · rw [if_pos hjk] at hpm
    have hdk : decide (j ≤ k) = true := by simpa using hjk
    have I := hid (fun w0 hT0 => ih A1 (.slice (some ⟨b, o, none⟩) k c') j known w0 hn1 hlA1 hT0 h1 (by rw [E1.out]; exact hjk))
    have R := hid (fun w0 hS => rroot_any A2 (.slice (some ⟨b, o + k * 32, none⟩) (A.length - k) (c' - k)) w0 hlA2 hS)
    have hQl : (subL A1 j known).length ≤ 21 := by rw [hpm, List.length_append] at hPl; omega
    generalize hQ : subL A1 j known = Q at *
    generalize hS : rootL A2 = S at *
    have HRl := hid lt2
    have Hpm := hid hpm
    have HQl := hid hQl
    clear hpm hPl lt1 lt2 hA hA32 hD hT hQ hS hQl
    go_enter Tryd.func69, Tryd.ntmps69
    go_upto_region 7 with (go_at_call 67; refine (Hsp.out _).mono ?_; rintro e w1 ⟨rfl, rfl⟩)
    refine wp_region_anyC (by kernel_rfl) ?_
    intro w5 he5 hb5
    have Hc5 := hid hb5
    clear he5
    show wpAnyC _ _ _ _ _ 13 (Array.replicate 13 false) _ _
    refine wpAnyC_take (i := 0) (v := .slice (some ⟨b, o, none⟩) A.length c') rfl (by kernel_rfl) (by kernel_rfl) (by kernel_rfl) (fun _ _ _ h => h) (Or.inl ⟨by rfl, ?_⟩) ?_
    · intro w _
      go_simp
      try exact IntWalk.i64_in _ (by omega)
      try omega
    (first | dsimp only [List.getElem_toArray, List.getElem_cons_succ, List.getElem_cons_zero] | dsimp (maxSteps := 10000000) only [List.getElem_toArray, List.getElem_cons_succ, List.getElem_cons_zero] | skip); (first | go_frame | simp (maxSteps := 10000000) only [Act.put, List.setIfInBounds_toArray, List.set_cons_succ, List.set_cons_zero] | skip)
    refine wpAnyC_take (i := 1) (v := .int .i64 (k : Int)) rfl (by kernel_rfl) (by kernel_rfl) (by kernel_rfl) (fun _ _ _ h => h) (Or.inl ⟨by rfl, ?_⟩) ?_
    · intro w _
      go_simp
      try exact IntWalk.i64_in _ (by omega)
      try omega
    (first | dsimp only [List.getElem_toArray, List.getElem_cons_succ, List.getElem_cons_zero] | dsimp (maxSteps := 10000000) only [List.getElem_toArray, List.getElem_cons_succ, List.getElem_cons_zero] | skip); (first | go_frame | simp (maxSteps := 10000000) only [Act.put, List.setIfInBounds_toArray, List.set_cons_succ, List.set_cons_zero] | skip)
    refine wpAnyC_take (i := 2) (v := .slice (some ⟨b, o, none⟩) k c') rfl (by kernel_rfl) (by kernel_rfl) (by kernel_rfl) (fun _ _ _ h => h) (Or.inl ⟨by rfl, ?_⟩) ?_
    · intro w _
      go_simp
      try exact IntWalk.i64_in _ (by omega)
      try omega
    (first | dsimp only [List.getElem_toArray, List.getElem_cons_succ, List.getElem_cons_zero] | dsimp (maxSteps := 10000000) only [List.getElem_toArray, List.getElem_cons_succ, List.getElem_cons_zero] | skip); (first | go_frame | simp (maxSteps := 10000000) only [Act.put, List.setIfInBounds_toArray, List.set_cons_succ, List.set_cons_zero] | skip)
    refine wpAnyC_take (i := 3) (v := .int .i64 (j : Int)) rfl (by kernel_rfl) (by kernel_rfl) (by kernel_rfl) (fun _ _ _ h => h) (Or.inl ⟨by rfl, ?_⟩) ?_
    · intro w _
      go_simp
      try exact IntWalk.i64_in _ (by omega)
      try omega
    (first | dsimp only [List.getElem_toArray, List.getElem_cons_succ, List.getElem_cons_zero] | dsimp (maxSteps := 10000000) only [List.getElem_toArray, List.getElem_cons_succ, List.getElem_cons_zero] | skip); (first | go_frame | simp (maxSteps := 10000000) only [Act.put, List.setIfInBounds_toArray, List.set_cons_succ, List.set_cons_zero] | skip)
    refine wpAnyC_take (i := 4) (v := .bool known) rfl (by kernel_rfl) (by kernel_rfl) (by kernel_rfl) (fun _ _ _ h => h) (Or.inl ⟨by rfl, ?_⟩) ?_
    · intro w _
      go_simp
      try exact IntWalk.i64_in _ (by omega)
      try omega
    (first | dsimp only [List.getElem_toArray, List.getElem_cons_succ, List.getElem_cons_zero] | dsimp (maxSteps := 10000000) only [List.getElem_toArray, List.getElem_cons_succ, List.getElem_cons_zero] | skip); (first | go_frame | simp (maxSteps := 10000000) only [Act.put, List.setIfInBounds_toArray, List.set_cons_succ, List.set_cons_zero] | skip)
    refine wpAnyC_take (i := 6) (v := .slice (some ⟨b, o, none⟩) A.length c') rfl (by kernel_rfl) (by kernel_rfl) (by kernel_rfl) (fun _ _ _ h => h) (Or.inl ⟨by rfl, ?_⟩) ?_
    · intro w _
      go_simp
      try exact IntWalk.i64_in _ (by omega)
      try omega
    (first | dsimp only [List.getElem_toArray, List.getElem_cons_succ, List.getElem_cons_zero] | dsimp (maxSteps := 10000000) only [List.getElem_toArray, List.getElem_cons_succ, List.getElem_cons_zero] | skip); (first | go_frame | simp (maxSteps := 10000000) only [Act.put, List.setIfInBounds_toArray, List.set_cons_succ, List.set_cons_zero] | skip)
    refine wpAnyC_take (i := 7) (v := .int .i64 (k : Int)) rfl (by kernel_rfl) (by kernel_rfl) (by kernel_rfl) (fun _ _ _ h => h) (Or.inl ⟨by rfl, ?_⟩) ?_
    · intro w _
      go_simp
      try exact IntWalk.i64_in _ (by omega)
      try omega
    (first | dsimp only [List.getElem_toArray, List.getElem_cons_succ, List.getElem_cons_zero] | dsimp (maxSteps := 10000000) only [List.getElem_toArray, List.getElem_cons_succ, List.getElem_cons_zero] | skip); (first | go_frame | simp (maxSteps := 10000000) only [Act.put, List.setIfInBounds_toArray, List.set_cons_succ, List.set_cons_zero] | skip)
    refine wpAnyC_take (i := 8) (v := .slice (some ⟨b, o + k * 32, none⟩) (A.length - k) (c' - k)) rfl (by kernel_rfl) (by kernel_rfl) (by kernel_rfl) (fun _ _ _ h => h) (Or.inl ⟨by rfl, ?_⟩) ?_
    · intro w _
      go_simp
      try exact IntWalk.i64_in _ (by omega)
      try omega
    (first | dsimp only [List.getElem_toArray, List.getElem_cons_succ, List.getElem_cons_zero] | dsimp (maxSteps := 10000000) only [List.getElem_toArray, List.getElem_cons_succ, List.getElem_cons_zero] | skip); (first | go_frame | simp (maxSteps := 10000000) only [Act.put, List.setIfInBounds_toArray, List.set_cons_succ, List.set_cons_zero] | skip)
    refine wpAnyC_forced (i := 5) (by kernel_rfl) rfl (Hc5.out) ?_
    (first | dsimp only [List.getElem_toArray, List.getElem_cons_succ, List.getElem_cons_zero] | dsimp (maxSteps := 10000000) only [List.getElem_toArray, List.getElem_cons_succ, List.getElem_cons_zero] | skip); (first | go_frame | simp (maxSteps := 10000000) only [Act.put, List.setIfInBounds_toArray, List.set_cons_succ, List.set_cons_zero] | skip)
    go_wp2_with (go_at_call 69; refine (I.out _ (HT.out.below Hc5.out (Nat.le_refl _))).mono ?_; rintro e w2 ⟨⟨u, rfl, hown⟩, hb2⟩)
    show wpAnyC _ _ _ _ _ _ _ _ _
    have Hown := hid hown
    have Hc2 := hid (bth Hc5.out hb2)
    have HD2 := hid (HD.out.below Hc2.out (Nat.le_refl _))
    have hsz5 : w.heap.size ≤ w5.heap.size := Hc5.out.size
    clear hown
    refine wpAnyC_forced (i := 9) (by kernel_rfl) rfl (Hc2.out) ?_
    (first | dsimp only [List.getElem_toArray, List.getElem_cons_succ, List.getElem_cons_zero] | dsimp (maxSteps := 10000000) only [List.getElem_toArray, List.getElem_cons_succ, List.getElem_cons_zero] | skip); (first | go_frame | simp (maxSteps := 10000000) only [Act.put, List.setIfInBounds_toArray, List.set_cons_succ, List.set_cons_zero] | skip)
    go_wp2_with (go_at_call 42; refine (R.out _ HD2.out).mono ?_; rintro e w3 ⟨rfl, hb3⟩)
    show wpAnyC _ _ _ _ _ _ _ _ _
    have Hc3 := hid (bth Hc2.out hb3)
    have Hown3 := hid ((Hown.out.later hb3).rebase hsz5)
    clear Hown hb3
    refine wpAnyC_forced (i := 10) (by kernel_rfl) rfl (Hc3.out) ?_
    (first | dsimp only [List.getElem_toArray, List.getElem_cons_succ, List.getElem_cons_zero] | dsimp (maxSteps := 10000000) only [List.getElem_toArray, List.getElem_cons_succ, List.getElem_cons_zero] | skip); (first | go_frame | simp (maxSteps := 10000000) only [Act.put, List.setIfInBounds_toArray, List.set_cons_succ, List.set_cons_zero] | skip)
    go_wp2_with (refine wpList_buildSlice_one rfl 22 29 _ rfl 32 (hv zero32) (hv S) (hc S) rfl Tryd.underlying22 Tryd.infoHash2 rfl (by rw [hc_size, HRl.out]) (by decide) (by decide) ?_)
    show wpAnyC _ _ _ _ _ _ _ _ _
    have Hc4 := hid (Hc3.out.alloc Hc3.out.size (.cells (hc S) 29))
    have Hown4 := hid (Hown3.out.alloc (.cells (hc S) 29))
    refine wpAnyC_forced (i := 11) (by kernel_rfl) rfl (Hc4.out) ?_
    (first | dsimp only [List.getElem_toArray, List.getElem_cons_succ, List.getElem_cons_zero] | dsimp (maxSteps := 10000000) only [List.getElem_toArray, List.getElem_cons_succ, List.getElem_cons_zero] | skip); (first | go_frame | simp (maxSteps := 10000000) only [Act.put, List.setIfInBounds_toArray, List.set_cons_succ, List.set_cons_zero] | skip)
    refine wpList_app rfl _ _ 22 rfl w.heap.size 29 i0 (hv zero32) 32 32 Tryd.underlying22 hi0 hz0 hz1 hz2 rfl (by decide) u Q.length (hflat Q) rfl Hown4.out ⟨w3.heap.size, 0, none⟩ 1 1 (S.map bcell) rfl ?c2 ?c3 (bcell_one S) ?c5 ?c6 ?c7 ?_
    case c2 => simp [HRl.out]
    case c3 =>
      intro j u hj
      exact row_alloc (w := w3) (cs := hc S) (t := 29) (fr := (0, 0)) j u (by rw [hc_toList]; exact hj)
    case c5 => have := HQl.out; unfold maxLen; omega
    case c6 => have := HQl.out; omega
    case c7 => have := Hc3.out.size; simp; omega
    intro v' w6 hown6 hgrow hat
    refine wpList_nil ?_
    show wpAnyC _ _ _ _ _ _ _ _ _
    (first | dsimp only [List.getElem_toArray, List.getElem_cons_succ, List.getElem_cons_zero] | dsimp (maxSteps := 10000000) only [List.getElem_toArray, List.getElem_cons_succ, List.getElem_cons_zero] | skip); (first | go_frame | simp (maxSteps := 10000000) only [Act.put, List.setIfInBounds_toArray, List.set_cons_succ, List.set_cons_zero] | skip)
    have Hc6 := hid (Hc4.out.grown hgrow (by have := Hc3.out.size; simp; omega) (fun q hq => (Hown4.out.lt q hq).1))
    have Hown6 := hid hown6
    clear hown6 hgrow hat
    refine wpAnyC_forced (i := 12) (by kernel_rfl) rfl (Hc6.out) ?_
    (first | dsimp only [List.getElem_toArray, List.getElem_cons_succ, List.getElem_cons_zero] | dsimp (maxSteps := 10000000) only [List.getElem_toArray, List.getElem_cons_succ, List.getElem_cons_zero] | skip); (first | go_frame | simp (maxSteps := 10000000) only [Act.put, List.setIfInBounds_toArray, List.set_cons_succ, List.set_cons_zero] | skip)
    go_wp2
    show wpAnyC _ _ _ _ _ _ _ _ _
    refine wpAnyC_done (by kernel_rfl) Hc6.out ?_ _
    (first | dsimp only [List.getElem_toArray, List.getElem_cons_succ, List.getElem_cons_zero] | dsimp (maxSteps := 10000000) only [List.getElem_toArray, List.getElem_cons_succ, List.getElem_cons_zero] | skip); (first | go_frame | simp (maxSteps := 10000000) only [Act.put, List.setIfInBounds_toArray, List.set_cons_succ, List.set_cons_zero] | skip)
    go_wp2
    go_ret
    refine ⟨⟨v', rfl, ?_⟩, Hc6.out⟩
    rw [Hpm.out, List.length_append, hflat_snoc]
    exact Hown6.out
  · rw [if_neg hjk] at hpm
    have hdk : decide (j ≤ k) = false := by simpa using hjk
    obtain ⟨j2, hj2⟩ : ∃ j2, j - k = j2 := ⟨_, rfl⟩
    have ej : (j : Int) - (k : Int) = (j2 : Int) := by omega
    rw [hj2] at hpm
    have hj2l : j2 ≤ 1000000 := by omega
    have hwj : IntKind.i64.wrap (j2 : Int) = (j2 : Int) := IntWalk.i64_in _ (by omega)
    have I := hid (fun w0 hT0 => ih A2 (.slice (some ⟨b, o + k * 32, none⟩) (A.length - k) (c' - k)) j2 false w0 hn2 hlA2 hT0 (by omega) (by rw [E2.out]; omega))
    have R := hid (fun w0 hS => rroot_any A1 (.slice (some ⟨b, o, none⟩) k c') w0 hlA1 hS)
    have hQl : (subL A2 j2 false).length ≤ 21 := by rw [hpm, List.length_append] at hPl; omega
    generalize hQ : subL A2 j2 false = Q at *
    generalize hS : rootL A1 = S at *
    have HRl := hid lt1
    have Hpm := hid hpm
    have HQl := hid hQl
    clear hpm hPl lt1 lt2 hA hA32 hD hT hQ hS hQl hj2
    go_enter Tryd.func69, Tryd.ntmps69
    go_upto_region 8 with (go_at_call 67; refine (Hsp.out _).mono ?_; rintro e w1 ⟨rfl, rfl⟩)
    refine wp_region_anyC (by kernel_rfl) ?_
    intro w5 he5 hb5
    have Hc5 := hid hb5
    clear he5
    show wpAnyC _ _ _ _ _ 14 (Array.replicate 14 false) _ _
    refine wpAnyC_take (i := 0) (v := .slice (some ⟨b, o, none⟩) A.length c') rfl (by kernel_rfl) (by kernel_rfl) (by kernel_rfl) (fun _ _ _ h => h) (Or.inl ⟨by rfl, ?_⟩) ?_
    · intro w _
      go_simp
      try exact IntWalk.i64_in _ (by omega)
      try omega
    (first | dsimp only [List.getElem_toArray, List.getElem_cons_succ, List.getElem_cons_zero] | dsimp (maxSteps := 10000000) only [List.getElem_toArray, List.getElem_cons_succ, List.getElem_cons_zero] | skip); (first | go_frame | simp (maxSteps := 10000000) only [Act.put, List.setIfInBounds_toArray, List.set_cons_succ, List.set_cons_zero] | skip)
    refine wpAnyC_take (i := 1) (v := .int .i64 (k : Int)) rfl (by kernel_rfl) (by kernel_rfl) (by kernel_rfl) (fun _ _ _ h => h) (Or.inl ⟨by rfl, ?_⟩) ?_
    · intro w _
      go_simp
      try exact IntWalk.i64_in _ (by omega)
      try omega
    (first | dsimp only [List.getElem_toArray, List.getElem_cons_succ, List.getElem_cons_zero] | dsimp (maxSteps := 10000000) only [List.getElem_toArray, List.getElem_cons_succ, List.getElem_cons_zero] | skip); (first | go_frame | simp (maxSteps := 10000000) only [Act.put, List.setIfInBounds_toArray, List.set_cons_succ, List.set_cons_zero] | skip)
    refine wpAnyC_take (i := 2) (v := .slice (some ⟨b, o + k * 32, none⟩) (A.length - k) (c' - k)) rfl (by kernel_rfl) (by kernel_rfl) (by kernel_rfl) (fun _ _ _ h => h) (Or.inl ⟨by rfl, ?_⟩) ?_
    · intro w _
      go_simp
      try exact IntWalk.i64_in _ (by omega)
      try omega
    (first | dsimp only [List.getElem_toArray, List.getElem_cons_succ, List.getElem_cons_zero] | dsimp (maxSteps := 10000000) only [List.getElem_toArray, List.getElem_cons_succ, List.getElem_cons_zero] | skip); (first | go_frame | simp (maxSteps := 10000000) only [Act.put, List.setIfInBounds_toArray, List.set_cons_succ, List.set_cons_zero] | skip)
    refine wpAnyC_take (i := 3) (v := .int .i64 (j : Int)) rfl (by kernel_rfl) (by kernel_rfl) (by kernel_rfl) (fun _ _ _ h => h) (Or.inl ⟨by rfl, ?_⟩) ?_
    · intro w _
      go_simp
      try exact IntWalk.i64_in _ (by omega)
      try omega
    (first | dsimp only [List.getElem_toArray, List.getElem_cons_succ, List.getElem_cons_zero] | dsimp (maxSteps := 10000000) only [List.getElem_toArray, List.getElem_cons_succ, List.getElem_cons_zero] | skip); (first | go_frame | simp (maxSteps := 10000000) only [Act.put, List.setIfInBounds_toArray, List.set_cons_succ, List.set_cons_zero] | skip)
    refine wpAnyC_take (i := 4) (v := .int .i64 (k : Int)) rfl (by kernel_rfl) (by kernel_rfl) (by kernel_rfl) (fun _ _ _ h => h) (Or.inl ⟨by rfl, ?_⟩) ?_
    · intro w _
      go_simp
      try exact IntWalk.i64_in _ (by omega)
      try omega
    (first | dsimp only [List.getElem_toArray, List.getElem_cons_succ, List.getElem_cons_zero] | dsimp (maxSteps := 10000000) only [List.getElem_toArray, List.getElem_cons_succ, List.getElem_cons_zero] | skip); (first | go_frame | simp (maxSteps := 10000000) only [Act.put, List.setIfInBounds_toArray, List.set_cons_succ, List.set_cons_zero] | skip)
    refine wpAnyC_take (i := 5) (v := .int .i64 (j2 : Int)) rfl (by kernel_rfl) (by kernel_rfl) (by kernel_rfl) (fun _ _ _ h => h) (Or.inl ⟨by rfl, ?_⟩) ?_
    · intro w _
      go_simp
      try exact IntWalk.i64_in _ (by omega)
      try omega
    (first | dsimp only [List.getElem_toArray, List.getElem_cons_succ, List.getElem_cons_zero] | dsimp (maxSteps := 10000000) only [List.getElem_toArray, List.getElem_cons_succ, List.getElem_cons_zero] | skip); (first | go_frame | simp (maxSteps := 10000000) only [Act.put, List.setIfInBounds_toArray, List.set_cons_succ, List.set_cons_zero] | skip)
    refine wpAnyC_take (i := 7) (v := .slice (some ⟨b, o, none⟩) A.length c') rfl (by kernel_rfl) (by kernel_rfl) (by kernel_rfl) (fun _ _ _ h => h) (Or.inl ⟨by rfl, ?_⟩) ?_
    · intro w _
      go_simp
      try exact IntWalk.i64_in _ (by omega)
      try omega
    (first | dsimp only [List.getElem_toArray, List.getElem_cons_succ, List.getElem_cons_zero] | dsimp (maxSteps := 10000000) only [List.getElem_toArray, List.getElem_cons_succ, List.getElem_cons_zero] | skip); (first | go_frame | simp (maxSteps := 10000000) only [Act.put, List.setIfInBounds_toArray, List.set_cons_succ, List.set_cons_zero] | skip)
    refine wpAnyC_take (i := 8) (v := .int .i64 (k : Int)) rfl (by kernel_rfl) (by kernel_rfl) (by kernel_rfl) (fun _ _ _ h => h) (Or.inl ⟨by rfl, ?_⟩) ?_
    · intro w _
      go_simp
      try exact IntWalk.i64_in _ (by omega)
      try omega
    (first | dsimp only [List.getElem_toArray, List.getElem_cons_succ, List.getElem_cons_zero] | dsimp (maxSteps := 10000000) only [List.getElem_toArray, List.getElem_cons_succ, List.getElem_cons_zero] | skip); (first | go_frame | simp (maxSteps := 10000000) only [Act.put, List.setIfInBounds_toArray, List.set_cons_succ, List.set_cons_zero] | skip)
    refine wpAnyC_take (i := 9) (v := .slice (some ⟨b, o, none⟩) k c') rfl (by kernel_rfl) (by kernel_rfl) (by kernel_rfl) (fun _ _ _ h => h) (Or.inl ⟨by rfl, ?_⟩) ?_
    · intro w _
      go_simp
      try exact IntWalk.i64_in _ (by omega)
      try omega
    (first | dsimp only [List.getElem_toArray, List.getElem_cons_succ, List.getElem_cons_zero] | dsimp (maxSteps := 10000000) only [List.getElem_toArray, List.getElem_cons_succ, List.getElem_cons_zero] | skip); (first | go_frame | simp (maxSteps := 10000000) only [Act.put, List.setIfInBounds_toArray, List.set_cons_succ, List.set_cons_zero] | skip)
    refine wpAnyC_forced (i := 6) (by kernel_rfl) rfl (Hc5.out) ?_
    (first | dsimp only [List.getElem_toArray, List.getElem_cons_succ, List.getElem_cons_zero] | dsimp (maxSteps := 10000000) only [List.getElem_toArray, List.getElem_cons_succ, List.getElem_cons_zero] | skip); (first | go_frame | simp (maxSteps := 10000000) only [Act.put, List.setIfInBounds_toArray, List.set_cons_succ, List.set_cons_zero] | skip)
    go_wp2_with (go_at_call 69; refine (I.out _ (HD.out.below Hc5.out (Nat.le_refl _))).mono ?_; rintro e w2 ⟨⟨u, rfl, hown⟩, hb2⟩)
    show wpAnyC _ _ _ _ _ _ _ _ _
    have Hown := hid hown
    have Hc2 := hid (bth Hc5.out hb2)
    have HD2 := hid (HT.out.below Hc2.out (Nat.le_refl _))
    have hsz5 : w.heap.size ≤ w5.heap.size := Hc5.out.size
    clear hown
    refine wpAnyC_forced (i := 10) (by kernel_rfl) rfl (Hc2.out) ?_
    (first | dsimp only [List.getElem_toArray, List.getElem_cons_succ, List.getElem_cons_zero] | dsimp (maxSteps := 10000000) only [List.getElem_toArray, List.getElem_cons_succ, List.getElem_cons_zero] | skip); (first | go_frame | simp (maxSteps := 10000000) only [Act.put, List.setIfInBounds_toArray, List.set_cons_succ, List.set_cons_zero] | skip)
    go_wp2_with (go_at_call 42; refine (R.out _ HD2.out).mono ?_; rintro e w3 ⟨rfl, hb3⟩)
    show wpAnyC _ _ _ _ _ _ _ _ _
    have Hc3 := hid (bth Hc2.out hb3)
    have Hown3 := hid ((Hown.out.later hb3).rebase hsz5)
    clear Hown hb3
    refine wpAnyC_forced (i := 11) (by kernel_rfl) rfl (Hc3.out) ?_
    (first | dsimp only [List.getElem_toArray, List.getElem_cons_succ, List.getElem_cons_zero] | dsimp (maxSteps := 10000000) only [List.getElem_toArray, List.getElem_cons_succ, List.getElem_cons_zero] | skip); (first | go_frame | simp (maxSteps := 10000000) only [Act.put, List.setIfInBounds_toArray, List.set_cons_succ, List.set_cons_zero] | skip)
    go_wp2_with (refine wpList_buildSlice_one rfl 22 29 _ rfl 32 (hv zero32) (hv S) (hc S) rfl Tryd.underlying22 Tryd.infoHash2 rfl (by rw [hc_size, HRl.out]) (by decide) (by decide) ?_)
    show wpAnyC _ _ _ _ _ _ _ _ _
    have Hc4 := hid (Hc3.out.alloc Hc3.out.size (.cells (hc S) 29))
    have Hown4 := hid (Hown3.out.alloc (.cells (hc S) 29))
    refine wpAnyC_forced (i := 12) (by kernel_rfl) rfl (Hc4.out) ?_
    (first | dsimp only [List.getElem_toArray, List.getElem_cons_succ, List.getElem_cons_zero] | dsimp (maxSteps := 10000000) only [List.getElem_toArray, List.getElem_cons_succ, List.getElem_cons_zero] | skip); (first | go_frame | simp (maxSteps := 10000000) only [Act.put, List.setIfInBounds_toArray, List.set_cons_succ, List.set_cons_zero] | skip)
    refine wpList_app rfl _ _ 22 rfl w.heap.size 29 i0 (hv zero32) 32 32 Tryd.underlying22 hi0 hz0 hz1 hz2 rfl (by decide) u Q.length (hflat Q) rfl Hown4.out ⟨w3.heap.size, 0, none⟩ 1 1 (S.map bcell) rfl ?c2 ?c3 (bcell_one S) ?c5 ?c6 ?c7 ?_
    case c2 => simp [HRl.out]
    case c3 =>
      intro j u hj
      exact row_alloc (w := w3) (cs := hc S) (t := 29) (fr := (0, 0)) j u (by rw [hc_toList]; exact hj)
    case c5 => have := HQl.out; unfold maxLen; omega
    case c6 => have := HQl.out; omega
    case c7 => have := Hc3.out.size; simp; omega
    intro v' w6 hown6 hgrow hat
    refine wpList_nil ?_
    show wpAnyC _ _ _ _ _ _ _ _ _
    (first | dsimp only [List.getElem_toArray, List.getElem_cons_succ, List.getElem_cons_zero] | dsimp (maxSteps := 10000000) only [List.getElem_toArray, List.getElem_cons_succ, List.getElem_cons_zero] | skip); (first | go_frame | simp (maxSteps := 10000000) only [Act.put, List.setIfInBounds_toArray, List.set_cons_succ, List.set_cons_zero] | skip)
    have Hc6 := hid (Hc4.out.grown hgrow (by have := Hc3.out.size; simp; omega) (fun q hq => (Hown4.out.lt q hq).1))
    have Hown6 := hid hown6
    clear hown6 hgrow hat
    refine wpAnyC_forced (i := 13) (by kernel_rfl) rfl (Hc6.out) ?_
    (first | dsimp only [List.getElem_toArray, List.getElem_cons_succ, List.getElem_cons_zero] | dsimp (maxSteps := 10000000) only [List.getElem_toArray, List.getElem_cons_succ, List.getElem_cons_zero] | skip); (first | go_frame | simp (maxSteps := 10000000) only [Act.put, List.setIfInBounds_toArray, List.set_cons_succ, List.set_cons_zero] | skip)
    go_wp2
    show wpAnyC _ _ _ _ _ _ _ _ _
    refine wpAnyC_done (by kernel_rfl) Hc6.out ?_ _
    (first | dsimp only [List.getElem_toArray, List.getElem_cons_succ, List.getElem_cons_zero] | dsimp (maxSteps := 10000000) only [List.getElem_toArray, List.getElem_cons_succ, List.getElem_cons_zero] | skip); (first | go_frame | simp (maxSteps := 10000000) only [Act.put, List.setIfInBounds_toArray, List.set_cons_succ, List.set_cons_zero] | skip)
    go_wp2
    go_ret
    refine ⟨⟨v', rfl, ?_⟩, Hc6.out⟩
    rw [Hpm.out, List.length_append, hflat_snoc]
    exact Hown6.out
theorem rsub_at : ∀ n, RSubAt n
  | 0 => fun hs v m known w hn hl hS h1 hm => by omega
  | n + 1 => fun hs v m known w hn hl hS h1 hm => by
    by_cases h : m = hs.length
    · subst h; exact rsub_all hs v known w hl hS h1
    · exact rsub_many n (rsub_at n) hs v m known w hn hl hS h1 (by omega)
/-- the document's proof, for every number -/
def rprX (hs : List (List UInt8)) (m : Int) : List (List UInt8) := if 0 < m ∧ m ≤ hs.length then subL hs m.toNat true else []
def rprE (hs : List (List UInt8)) (m : Int) : Int := if 0 ≤ m ∧ m ≤ hs.length then 0 else 2
theorem rprX_32 {hs : List (List UInt8)} (h : ∀ x ∈ hs, x.length = 32) (m : Int) : ∀ x ∈ rprX hs m, x.length = 32 := by
  unfold rprX
  split
  · exact sub_32 hs.length hs _ true (Nat.le_refl _) (by omega) (by omega) h
  · simp
theorem rprX_len (hs : List (List UInt8)) (m : Int) (hl : hs.length ≤ 1000000) : (rprX hs m).length ≤ 21 := by
  unfold rprX
  split
  · exact sub_len 20 hs _ true (by omega) (by omega) (by omega)
  · simp
set_option maxHeartbeats 2000000 in
theorem rproof_any (hs : List (List UInt8)) (v : Value) (m : Int) (w : World) (hl : hs.length ≤ 1000000) (hS : SlAt w 32 v (hcs hs)) :
    Calls Tryd.prog 47 #[v, .int .i64 m] w fun e w' => (∃ u, e = .returned (.tuple #[u, .int .i64 (rprE hs m)]) ∧ SlAt w' 32 u (hcs (rprX hs m))) ∧ Below w.heap.size w w' := by
  obtain ⟨a, cap, rfl, hcap⟩ := hS.formH
  by_cases h0 : m < 0
  · have d0 : decide (m < 0) = true := by simpa using h0
    have e1 : rprE hs m = 2 := by unfold rprE; rw [if_neg (by omega)]
    have e2 : rprX hs m = [] := by unfold rprX; rw [if_neg (by omega)]
    rw [e1, e2]
    clear h0 hS e1 e2
    go_enter Tryd.func47, Tryd.ntmps47
    go_wp2
    go_ret2
    exact ⟨⟨_, rfl, slNil _⟩, Below.refl _ _⟩
  · have d0 : decide (m < 0) = false := by simpa using h0
    by_cases h1 : (hs.length : Int) < m
    · have d1 : decide ((hs.length : Int) < m) = true := by simpa using h1
      have e1 : rprE hs m = 2 := by unfold rprE; rw [if_neg (by omega)]
      have e2 : rprX hs m = [] := by unfold rprX; rw [if_neg (by omega)]
      rw [e1, e2]
      clear h0 h1 hS e1 e2
      go_enter Tryd.func47, Tryd.ntmps47
      go_wp2
      go_ret2
      exact ⟨⟨_, rfl, slNil _⟩, Below.refl _ _⟩
    · have d1 : decide ((hs.length : Int) < m) = false := by simpa using h1
      have e1 : rprE hs m = 0 := by unfold rprE; rw [if_pos (by omega)]
      rw [e1]
      obtain ⟨k, rfl⟩ : ∃ k : Nat, m = k := ⟨m.toNat, by omega⟩
      have d3 : decide (hs.length < k) = false := by simp; omega
      by_cases hk : k = 0
      · subst hk
        have e2 : rprX hs ((0 : Nat) : Int) = [] := by unfold rprX; rw [if_neg (by omega)]
        rw [e2]
        have d2 : (((0 : Nat) : Int) == 0) = true := rfl
        clear h0 h1 hS e1 e2
        go_enter Tryd.func47, Tryd.ntmps47
        go_wp2
        go_ret2
        exact ⟨⟨_, rfl, slNil _⟩, Below.refl _ _⟩
      · have d2 : ((k : Int) == 0) = false := by rw [beq_eq_false_iff_ne]; omega
        have e2 : rprX hs (k : Int) = subL hs k true := by unfold rprX; rw [if_pos (by omega)]; rfl
        rw [e2]
        have I := hid (rsub_at hs.length hs (.slice a hs.length cap) k true w (Nat.le_refl _) hl hS (by omega) (by omega))
        have H32 := hid (sub_32 hs.length hs k true (Nat.le_refl _) (by omega) (by omega) hS.len32)
        generalize subL hs k true = Q at *
        clear h0 h1 hS e1 e2 hk
        go_enter Tryd.func47, Tryd.ntmps47
        go_wp2_with (go_at_call 69; refine I.out.mono ?_; rintro e w2 ⟨⟨u, rfl, hown⟩, hb2⟩)
        go_ret2
        exact ⟨⟨_, rfl, SlAt.of_owns (size := 32) (hs := Q) hown H32.out⟩, hb2⟩
end Go.Proofs.YtbpjlancjdbehaaDoor
