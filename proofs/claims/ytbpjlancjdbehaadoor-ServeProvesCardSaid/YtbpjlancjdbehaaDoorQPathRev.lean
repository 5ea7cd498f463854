/- slices.Reverse of a row of hashes that the caller made -/
import Derived.Test.YtbpjlancjdbehaaDoorQAnyOp

set_option maxRecDepth 100000
namespace Go.Spec
/-- the first i and the last i, swapped -/
def swapN (hs : List (List UInt8)) : Nat → List (List UInt8)
  | 0 => hs
  | i + 1 => ((swapN hs i).set i ((swapN hs i).getD (hs.length - 1 - i) [])).set (hs.length - 1 - i) ((swapN hs i).getD i [])
theorem swapN_len (hs : List (List UInt8)) : ∀ i, (swapN hs i).length = hs.length
  | 0 => rfl
  | i + 1 => by rw [swapN, List.length_set, List.length_set]; exact swapN_len hs i
theorem swapN_at (hs : List (List UInt8)) : ∀ (i : Nat), 2 * i ≤ hs.length → ∀ p, p < hs.length → (swapN hs i).getD p [] = if p < i ∨ hs.length ≤ p + i then hs.getD (hs.length - 1 - p) [] else hs.getD p []
  | 0, _, p, hp => by rw [swapN, if_neg (by omega)]
  | i + 1, hi, p, hp => by
    have ih := swapN_at hs i (by omega)
    have hl := swapN_len hs i
    rw [swapN]
    rw [ih i (by omega), if_neg (by omega), ih (hs.length - 1 - i) (by omega), if_neg (by omega)]
    rw [List.getD_eq_getElem?_getD]
    by_cases h1 : p = hs.length - 1 - i
    · subst h1
      rw [List.getElem?_set_self (by rw [List.length_set, hl]; omega), if_pos (by omega), Option.getD_some]
      congr 1; omega
    · rw [List.getElem?_set_ne (by omega)]
      by_cases h2 : p = i
      · subst h2
        rw [List.getElem?_set_self (by rw [hl]; omega), if_pos (by omega), Option.getD_some]
      · rw [List.getElem?_set_ne (by omega), ← List.getD_eq_getElem?_getD, ih p hp]
        by_cases h3 : p < i ∨ hs.length ≤ p + i
        · rw [if_pos h3, if_pos (by omega)]
        · rw [if_neg h3, if_neg (by omega)]
theorem swapN_rev (hs : List (List UInt8)) (i : Nat) (hi : 2 * i ≤ hs.length) (he : hs.length ≤ 2 * i + 1) : swapN hs i = hs.reverse := by
  apply List.ext_getElem
  · rw [swapN_len, List.length_reverse]
  · intro p h1 h2
    rw [swapN_len] at h1
    have := swapN_at hs i hi p h1
    rw [List.getD_eq_getElem?_getD, List.getElem?_eq_getElem (by rw [swapN_len]; exact h1), Option.getD_some] at this
    rw [this, List.getElem_reverse]
    by_cases h3 : p < i ∨ hs.length ≤ p + i
    · rw [if_pos h3, List.getD_eq_getElem?_getD, List.getElem?_eq_getElem (by omega), Option.getD_some]
    · rw [if_neg h3, List.getD_eq_getElem?_getD, List.getElem?_eq_getElem (by omega), Option.getD_some]
      congr 1; omega
theorem swapN_32 (hs : List (List UInt8)) (h : ∀ x ∈ hs, x.length = 32) : ∀ i, 2 * i ≤ hs.length → ∀ x ∈ swapN hs i, x.length = 32
  | 0, _ => h
  | i + 1, hi => by
    have ih := swapN_32 hs h i (by omega)
    have hl := swapN_len hs i
    have g : ∀ p, p < hs.length → ((swapN hs i).getD p []).length = 32 := fun p hp => by
      rw [List.getD_eq_getElem?_getD, List.getElem?_eq_getElem (by omega)]
      exact ih _ (List.getElem_mem _)
    intro x hx
    rw [swapN] at hx
    rcases List.mem_or_eq_of_mem_set hx with h1 | h1
    · rcases List.mem_or_eq_of_mem_set h1 with h2 | h2
      · exact ih x h2
      · rw [h2]; exact g _ (by omega)
    · rw [h1]; exact g _ (by omega)
theorem mem_set32 {hs : List (List UInt8)} {k : Nat} {l : List UInt8} (h : ∀ x ∈ hs, x.length = 32) (hl : l.length = 32) : ∀ x ∈ hs.set k l, x.length = 32 := fun x hx => by
  rcases List.mem_or_eq_of_mem_set hx with h1 | h1
  · exact h x h1
  · rw [h1]; exact hl
end Go.Spec
namespace Go.Proofs.YtbpjlancjdbehaaDoor
open Go.RowKit Go.Spec
set_option maxHeartbeats 4000000 in
theorem rev_any (base n : Nat) (v : Value) (hs : List (List UInt8)) (w : World) (hl : hs.length = n) (hn : n ≤ 1000000) (h32 : ∀ x ∈ hs, x.length = 32) (hown : w.ownsRow base 29 32 v n (hflat hs)) (hbase : base ≤ w.heap.size) :
    Calls Tryd.prog 74 #[v] w fun e w' => e = .returned (.tuple #[]) ∧ w'.ownsRow base 29 32 v n (hflat hs.reverse) ∧ Below base w w' := by
  obtain ⟨a, cap, rfl, hcap⟩ := ownsRow_form hown
  have HO := hid hown; have HL := hid hl; have H32 := hid h32; have HB := hid hbase
  clear hown hl h32 hbase
  go_enter Tryd.func74, Tryd.ntmps74
  go_wp2
  go_loopw [2, 3] (fun i j wr => ∃ k : Nat, 2 * k ≤ n ∧ i = .int .i64 (k : Int) ∧ j = .int .i64 ((n : Int) - 1 - k) ∧ wr.ownsRow base 29 32 (.slice a n cap) n (hflat (swapN hs k)) ∧ Below base w wr) (fun i _ _ => n - (intOf i).toNat)
  case atStart => exact ⟨0, by omega, rfl, by go_num, HO.out, Below.refl _ _⟩
  case round =>
    obtain ⟨k, hk, rfl, rfl, hown, hb⟩ := hrel
    clear HO
    by_cases hlt : 2 * k + 1 < n
    · have hd : decide ((k : Int) < (n : Int) - 1 - k) = true := by simp; omega
      obtain ⟨m, hm⟩ : ∃ m : Nat, n - 1 - k = m := ⟨_, rfl⟩
      have em : (n : Int) - 1 - (k : Int) = (m : Int) := by omega
      have H32k := hid (swapN_32 hs H32.out k (by rw [HL.out]; exact hk))
      have HLk := hid ((swapN_len hs k).trans HL.out)
      have Hnx := hid (show swapN hs (k + 1) = ((swapN hs k).set k ((swapN hs k).getD m [])).set m ((swapN hs k).getD k []) by rw [swapN, HL.out, hm])
      have hmn : m < n := by omega
      have hkn : k < n := by omega
      obtain ⟨g, cap', e1, hgb, hgl, hnc, _⟩ := ownsRow_some hown (by omega)
      injection e1 with e1 _ _
      subst e1
      have hsl := SlAt.of_owns (size := 32) (hs := swapN hs k) (by rw [HLk.out]; exact hown) H32k.out
      have Hgx := hid (show ∀ p, p < n → (swapN hs k)[p]? = some ((swapN hs k).getD p []) from fun p hp => by
        rw [List.getD_eq_getElem?_getD, List.getElem?_eq_getElem (by rw [HLk.out]; exact hp), Option.getD_some])
      have Hcell := hid (show ∀ w1 : World, w1.heap = wr.heap → ∀ p, p < n → ∀ j u, (((swapN hs k).getD p []).map bcell)[j]? = some u → w1.cell? ((⟨g, p * 32, none⟩ : Addr).add j) = some u from fun w1 hw1 p hp j u hj => by
        obtain ⟨b, o, e1, _, _, h3⟩ := hsl.at (i := p) (cs := ((swapN hs k).getD p []).map bcell) (by unfold hcs; rw [List.getElem?_map, Hgx.out p hp]; rfl)
        injection e1 with e1
        injection e1 with e2 e3
        subst e2; subst e3
        rw [Nat.zero_add] at h3
        have := h3 j u hj
        rw [← this]
        unfold World.cell?; rw [hw1])
      have HX := hid (show ((swapN hs k).getD m []).length = 32 from H32k.out _ (List.mem_of_getElem? (Hgx.out m hmn)))
      have HY := hid (show ((swapN hs k).getD k []).length = 32 from H32k.out _ (List.mem_of_getElem? (Hgx.out k hkn)))
      have HcX := hid (fun w1 h1 => Hcell.out w1 h1 m hmn); have HcY := hid (fun w1 h1 => Hcell.out w1 h1 k hkn)
      have Hown := hid hown
      clear hsl hown Hcell Hgx hm
      generalize (swapN hs k).getD m [] = X at *
      generalize (swapN hs k).getD k [] = Y at *
      generalize swapN hs k = L at *
      have Hsx := hid (show (Tryd.prog.info? 29).map (·.size) = some X.length by rw [HX.out]; exact Tryd.sizeHash)
      have Hsy := hid (show (Tryd.prog.info? 29).map (·.size) = some Y.length by rw [HY.out]; exact Tryd.sizeHash)
      go_upto_region 3 with fail
      refine wp_region_anyw (by kernel_rfl) ?_
      intro w4 he4 hb4
      have Hown4 := hid (Hown.out.later hb4)
      have Hb4s := hid (show base ≤ w4.heap.size by have h1 := hb4.size; have h2 := hb.size; have h3 := HB.out; omega)
      have HcX4 := hid (HcX.out w4 he4); have HcY4 := hid (HcY.out w4 he4)
      show wpAny _ _ _ _ 16 (Array.replicate 16 false) _ _
      refine wpAny_take (i := 0) (v := .slice (some ⟨g, 0, none⟩) n cap) rfl (by kernel_rfl) (by kernel_rfl) (by kernel_rfl) (fun _ _ _ h => h) (Or.inl ⟨by rfl, ?_⟩) ?_
      · intro w
        go_simp
        try exact IntWalk.i64_in _ (by omega)
        try omega
      (first | dsimp only [List.getElem_toArray, List.getElem_cons_succ, List.getElem_cons_zero] | dsimp (maxSteps := 10000000) only [List.getElem_toArray, List.getElem_cons_succ, List.getElem_cons_zero] | skip); (first | go_frame | simp (maxSteps := 10000000) only [Act.put, List.setIfInBounds_toArray, List.set_cons_succ, List.set_cons_zero] | skip)
      refine wpAny_take (i := 1) (v := .int .i64 (k : Int)) rfl (by kernel_rfl) (by kernel_rfl) (by kernel_rfl) (fun _ _ _ h => h) (Or.inl ⟨by rfl, ?_⟩) ?_
      · intro w
        go_simp
        try exact IntWalk.i64_in _ (by omega)
        try omega
      (first | dsimp only [List.getElem_toArray, List.getElem_cons_succ, List.getElem_cons_zero] | dsimp (maxSteps := 10000000) only [List.getElem_toArray, List.getElem_cons_succ, List.getElem_cons_zero] | skip); (first | go_frame | simp (maxSteps := 10000000) only [Act.put, List.setIfInBounds_toArray, List.set_cons_succ, List.set_cons_zero] | skip)
      refine wpAny_take (i := 2) (v := .slice (some ⟨g, 0, none⟩) n cap) rfl (by kernel_rfl) (by kernel_rfl) (by kernel_rfl) (fun _ _ _ h => h) (Or.inl ⟨by rfl, ?_⟩) ?_
      · intro w
        go_simp
        try exact IntWalk.i64_in _ (by omega)
        try omega
      (first | dsimp only [List.getElem_toArray, List.getElem_cons_succ, List.getElem_cons_zero] | dsimp (maxSteps := 10000000) only [List.getElem_toArray, List.getElem_cons_succ, List.getElem_cons_zero] | skip); (first | go_frame | simp (maxSteps := 10000000) only [Act.put, List.setIfInBounds_toArray, List.set_cons_succ, List.set_cons_zero] | skip)
      refine wpAny_take (i := 3) (v := .int .i64 (m : Int)) rfl (by kernel_rfl) (by kernel_rfl) (by kernel_rfl) (fun _ _ _ h => h) (Or.inl ⟨by rfl, ?_⟩) ?_
      · intro w
        go_simp
        try exact IntWalk.i64_in _ (by omega)
        try omega
      (first | dsimp only [List.getElem_toArray, List.getElem_cons_succ, List.getElem_cons_zero] | dsimp (maxSteps := 10000000) only [List.getElem_toArray, List.getElem_cons_succ, List.getElem_cons_zero] | skip); (first | go_frame | simp (maxSteps := 10000000) only [Act.put, List.setIfInBounds_toArray, List.set_cons_succ, List.set_cons_zero] | skip)
      refine wpAny_take (i := 4) (v := .slice (some ⟨g, 0, none⟩) n cap) rfl (by kernel_rfl) (by kernel_rfl) (by kernel_rfl) (fun _ _ _ h => h) (Or.inl ⟨by rfl, ?_⟩) ?_
      · intro w
        go_simp
        try exact IntWalk.i64_in _ (by omega)
        try omega
      (first | dsimp only [List.getElem_toArray, List.getElem_cons_succ, List.getElem_cons_zero] | dsimp (maxSteps := 10000000) only [List.getElem_toArray, List.getElem_cons_succ, List.getElem_cons_zero] | skip); (first | go_frame | simp (maxSteps := 10000000) only [Act.put, List.setIfInBounds_toArray, List.set_cons_succ, List.set_cons_zero] | skip)
      refine wpAny_take (i := 5) (v := .int .i64 (m : Int)) rfl (by kernel_rfl) (by kernel_rfl) (by kernel_rfl) (fun _ _ _ h => h) (Or.inl ⟨by rfl, ?_⟩) ?_
      · intro w
        go_simp
        try exact IntWalk.i64_in _ (by omega)
        try omega
      (first | dsimp only [List.getElem_toArray, List.getElem_cons_succ, List.getElem_cons_zero] | dsimp (maxSteps := 10000000) only [List.getElem_toArray, List.getElem_cons_succ, List.getElem_cons_zero] | skip); (first | go_frame | simp (maxSteps := 10000000) only [Act.put, List.setIfInBounds_toArray, List.set_cons_succ, List.set_cons_zero] | skip)
      refine wpAny_take (i := 6) (v := .pointer (some ⟨g, m * 32, none⟩)) rfl (by kernel_rfl) (by kernel_rfl) (by kernel_rfl) (fun _ _ _ h => h) (Or.inl ⟨by rfl, ?_⟩) ?_
      · intro w
        go_simp
        try exact IntWalk.i64_in _ (by omega)
        try omega
      (first | dsimp only [List.getElem_toArray, List.getElem_cons_succ, List.getElem_cons_zero] | dsimp (maxSteps := 10000000) only [List.getElem_toArray, List.getElem_cons_succ, List.getElem_cons_zero] | skip); (first | go_frame | simp (maxSteps := 10000000) only [Act.put, List.setIfInBounds_toArray, List.set_cons_succ, List.set_cons_zero] | skip)
      refine wpAny_take (i := 8) (v := .slice (some ⟨g, 0, none⟩) n cap) rfl (by kernel_rfl) (by kernel_rfl) (by kernel_rfl) (fun _ _ _ h => h) (Or.inl ⟨by rfl, ?_⟩) ?_
      · intro w
        go_simp
        try exact IntWalk.i64_in _ (by omega)
        try omega
      (first | dsimp only [List.getElem_toArray, List.getElem_cons_succ, List.getElem_cons_zero] | dsimp (maxSteps := 10000000) only [List.getElem_toArray, List.getElem_cons_succ, List.getElem_cons_zero] | skip); (first | go_frame | simp (maxSteps := 10000000) only [Act.put, List.setIfInBounds_toArray, List.set_cons_succ, List.set_cons_zero] | skip)
      refine wpAny_take (i := 9) (v := .int .i64 (k : Int)) rfl (by kernel_rfl) (by kernel_rfl) (by kernel_rfl) (fun _ _ _ h => h) (Or.inl ⟨by rfl, ?_⟩) ?_
      · intro w
        go_simp
        try exact IntWalk.i64_in _ (by omega)
        try omega
      (first | dsimp only [List.getElem_toArray, List.getElem_cons_succ, List.getElem_cons_zero] | dsimp (maxSteps := 10000000) only [List.getElem_toArray, List.getElem_cons_succ, List.getElem_cons_zero] | skip); (first | go_frame | simp (maxSteps := 10000000) only [Act.put, List.setIfInBounds_toArray, List.set_cons_succ, List.set_cons_zero] | skip)
      refine wpAny_take (i := 10) (v := .pointer (some ⟨g, k * 32, none⟩)) rfl (by kernel_rfl) (by kernel_rfl) (by kernel_rfl) (fun _ _ _ h => h) (Or.inl ⟨by rfl, ?_⟩) ?_
      · intro w
        go_simp
        try exact IntWalk.i64_in _ (by omega)
        try omega
      (first | dsimp only [List.getElem_toArray, List.getElem_cons_succ, List.getElem_cons_zero] | dsimp (maxSteps := 10000000) only [List.getElem_toArray, List.getElem_cons_succ, List.getElem_cons_zero] | skip); (first | go_frame | simp (maxSteps := 10000000) only [Act.put, List.setIfInBounds_toArray, List.set_cons_succ, List.set_cons_zero] | skip)
      refine wpAny_all (rs := [7, 11]) (by kernel_rfl) (by simp) ?_
      intro q hq
      rcases (show q = 7 ∨ q = 11 by simpa using hq) with rfl | rfl
      ·
        refine wpOp_list rfl ?_
        (first | dsimp only [List.getElem_toArray, List.getElem_cons_succ, List.getElem_cons_zero] | dsimp (maxSteps := 10000000) only [List.getElem_toArray, List.getElem_cons_succ, List.getElem_cons_zero] | skip); (first | go_frame | simp (maxSteps := 10000000) only [Act.put, List.setIfInBounds_toArray, List.set_cons_succ, List.set_cons_zero] | skip)
        refine wpList_load_hc rfl 29 _ rfl ⟨g, m * 32, none⟩ rfl X _ HcX4.out Tryd.underlying29 rfl Hsx.out ?_
        refine wpList_nil ?_
        (first | dsimp only [List.getElem_toArray, List.getElem_cons_succ, List.getElem_cons_zero] | dsimp (maxSteps := 10000000) only [List.getElem_toArray, List.getElem_cons_succ, List.getElem_cons_zero] | skip); (first | go_frame | simp (maxSteps := 10000000) only [Act.put, List.setIfInBounds_toArray, List.set_cons_succ, List.set_cons_zero] | skip)
        refine wpAny_forced (i := 11) (by kernel_rfl) rfl ?_
        (first | dsimp only [List.getElem_toArray, List.getElem_cons_succ, List.getElem_cons_zero] | dsimp (maxSteps := 10000000) only [List.getElem_toArray, List.getElem_cons_succ, List.getElem_cons_zero] | skip); (first | go_frame | simp (maxSteps := 10000000) only [Act.put, List.setIfInBounds_toArray, List.set_cons_succ, List.set_cons_zero] | skip)
        refine wpList_load_hc rfl 29 _ rfl ⟨g, k * 32, none⟩ rfl Y _ HcY4.out Tryd.underlying29 rfl Hsy.out ?_
        refine wpList_nil ?_
        (first | dsimp only [List.getElem_toArray, List.getElem_cons_succ, List.getElem_cons_zero] | dsimp (maxSteps := 10000000) only [List.getElem_toArray, List.getElem_cons_succ, List.getElem_cons_zero] | skip); (first | go_frame | simp (maxSteps := 10000000) only [Act.put, List.setIfInBounds_toArray, List.set_cons_succ, List.set_cons_zero] | skip)
        refine wpAny_take (i := 12) (v := .pointer (some ⟨g, k * 32, none⟩)) rfl (by kernel_rfl) (by kernel_rfl) (by kernel_rfl) (fun _ _ _ h => h) (Or.inl ⟨by rfl, ?_⟩) ?_
        · intro w
          go_simp
          try exact IntWalk.i64_in _ (by omega)
          try omega
        (first | dsimp only [List.getElem_toArray, List.getElem_cons_succ, List.getElem_cons_zero] | dsimp (maxSteps := 10000000) only [List.getElem_toArray, List.getElem_cons_succ, List.getElem_cons_zero] | skip); (first | go_frame | simp (maxSteps := 10000000) only [Act.put, List.setIfInBounds_toArray, List.set_cons_succ, List.set_cons_zero] | skip)
        refine wpAny_forced (i := 13) (by kernel_rfl) rfl ?_
        (first | dsimp only [List.getElem_toArray, List.getElem_cons_succ, List.getElem_cons_zero] | dsimp (maxSteps := 10000000) only [List.getElem_toArray, List.getElem_cons_succ, List.getElem_cons_zero] | skip); (first | go_frame | simp (maxSteps := 10000000) only [Act.put, List.setIfInBounds_toArray, List.set_cons_succ, List.set_cons_zero] | skip)
        refine wpList_store_own rfl 29 _ _ rfl base 29 g cap n k rfl X rfl L Hown4.out H32k.out HLk.out HX.out hkn Tryd.sizeHash ?_
        intro w5 Hown5 hg5
        refine wpList_nil ?_
        (first | dsimp only [List.getElem_toArray, List.getElem_cons_succ, List.getElem_cons_zero] | dsimp (maxSteps := 10000000) only [List.getElem_toArray, List.getElem_cons_succ, List.getElem_cons_zero] | skip); (first | go_frame | simp (maxSteps := 10000000) only [Act.put, List.setIfInBounds_toArray, List.set_cons_succ, List.set_cons_zero] | skip)
        refine wpAny_take (i := 14) (v := .pointer (some ⟨g, m * 32, none⟩)) rfl (by kernel_rfl) (by kernel_rfl) (by kernel_rfl) (fun _ _ _ h => h) (Or.inl ⟨by rfl, ?_⟩) ?_
        · intro w
          go_simp
          try exact IntWalk.i64_in _ (by omega)
          try omega
        (first | dsimp only [List.getElem_toArray, List.getElem_cons_succ, List.getElem_cons_zero] | dsimp (maxSteps := 10000000) only [List.getElem_toArray, List.getElem_cons_succ, List.getElem_cons_zero] | skip); (first | go_frame | simp (maxSteps := 10000000) only [Act.put, List.setIfInBounds_toArray, List.set_cons_succ, List.set_cons_zero] | skip)
        refine wpAny_forced (i := 15) (by kernel_rfl) rfl ?_
        (first | dsimp only [List.getElem_toArray, List.getElem_cons_succ, List.getElem_cons_zero] | dsimp (maxSteps := 10000000) only [List.getElem_toArray, List.getElem_cons_succ, List.getElem_cons_zero] | skip); (first | go_frame | simp (maxSteps := 10000000) only [Act.put, List.setIfInBounds_toArray, List.set_cons_succ, List.set_cons_zero] | skip)
        refine wpList_store_own rfl 29 _ _ rfl base 29 g cap n m rfl Y rfl (L.set k X) Hown5 (mem_set32 H32k.out HX.out) (by rw [List.length_set]; exact HLk.out) HY.out hmn Tryd.sizeHash ?_
        intro w6 Hown6 hg6
        refine wpList_nil ?_
        (first | dsimp only [List.getElem_toArray, List.getElem_cons_succ, List.getElem_cons_zero] | dsimp (maxSteps := 10000000) only [List.getElem_toArray, List.getElem_cons_succ, List.getElem_cons_zero] | skip); (first | go_frame | simp (maxSteps := 10000000) only [Act.put, List.setIfInBounds_toArray, List.set_cons_succ, List.set_cons_zero] | skip)
        refine wpAny_done (by kernel_rfl) ?_ _
        have hb5 := (hb.trans (hb4.mono (by have h2 := hb.size; have h3 := HB.out; omega))).grown hg5 Hb4s.out (fun q hq => by injection hq with hq; omega)
        have hb6 := hb5.grown hg6 (by have := hg5.size; have := Hb4s.out; omega) (fun q hq => by injection hq with hq; omega)
        go_wp2
        go_roundw
        case rel => exact ⟨k + 1, by omega, by go_num, by go_num, by rw [Hnx.out]; exact Hown6, hb6⟩
        case measure => simp [intOf]; omega
      ·
        refine wpOp_list rfl ?_
        (first | dsimp only [List.getElem_toArray, List.getElem_cons_succ, List.getElem_cons_zero] | dsimp (maxSteps := 10000000) only [List.getElem_toArray, List.getElem_cons_succ, List.getElem_cons_zero] | skip); (first | go_frame | simp (maxSteps := 10000000) only [Act.put, List.setIfInBounds_toArray, List.set_cons_succ, List.set_cons_zero] | skip)
        refine wpList_load_hc rfl 29 _ rfl ⟨g, k * 32, none⟩ rfl Y _ HcY4.out Tryd.underlying29 rfl Hsy.out ?_
        refine wpList_nil ?_
        (first | dsimp only [List.getElem_toArray, List.getElem_cons_succ, List.getElem_cons_zero] | dsimp (maxSteps := 10000000) only [List.getElem_toArray, List.getElem_cons_succ, List.getElem_cons_zero] | skip); (first | go_frame | simp (maxSteps := 10000000) only [Act.put, List.setIfInBounds_toArray, List.set_cons_succ, List.set_cons_zero] | skip)
        refine wpAny_forced (i := 7) (by kernel_rfl) rfl ?_
        (first | dsimp only [List.getElem_toArray, List.getElem_cons_succ, List.getElem_cons_zero] | dsimp (maxSteps := 10000000) only [List.getElem_toArray, List.getElem_cons_succ, List.getElem_cons_zero] | skip); (first | go_frame | simp (maxSteps := 10000000) only [Act.put, List.setIfInBounds_toArray, List.set_cons_succ, List.set_cons_zero] | skip)
        refine wpList_load_hc rfl 29 _ rfl ⟨g, m * 32, none⟩ rfl X _ HcX4.out Tryd.underlying29 rfl Hsx.out ?_
        refine wpList_nil ?_
        (first | dsimp only [List.getElem_toArray, List.getElem_cons_succ, List.getElem_cons_zero] | dsimp (maxSteps := 10000000) only [List.getElem_toArray, List.getElem_cons_succ, List.getElem_cons_zero] | skip); (first | go_frame | simp (maxSteps := 10000000) only [Act.put, List.setIfInBounds_toArray, List.set_cons_succ, List.set_cons_zero] | skip)
        refine wpAny_take (i := 12) (v := .pointer (some ⟨g, k * 32, none⟩)) rfl (by kernel_rfl) (by kernel_rfl) (by kernel_rfl) (fun _ _ _ h => h) (Or.inl ⟨by rfl, ?_⟩) ?_
        · intro w
          go_simp
          try exact IntWalk.i64_in _ (by omega)
          try omega
        (first | dsimp only [List.getElem_toArray, List.getElem_cons_succ, List.getElem_cons_zero] | dsimp (maxSteps := 10000000) only [List.getElem_toArray, List.getElem_cons_succ, List.getElem_cons_zero] | skip); (first | go_frame | simp (maxSteps := 10000000) only [Act.put, List.setIfInBounds_toArray, List.set_cons_succ, List.set_cons_zero] | skip)
        refine wpAny_forced (i := 13) (by kernel_rfl) rfl ?_
        (first | dsimp only [List.getElem_toArray, List.getElem_cons_succ, List.getElem_cons_zero] | dsimp (maxSteps := 10000000) only [List.getElem_toArray, List.getElem_cons_succ, List.getElem_cons_zero] | skip); (first | go_frame | simp (maxSteps := 10000000) only [Act.put, List.setIfInBounds_toArray, List.set_cons_succ, List.set_cons_zero] | skip)
        refine wpList_store_own rfl 29 _ _ rfl base 29 g cap n k rfl X rfl L Hown4.out H32k.out HLk.out HX.out hkn Tryd.sizeHash ?_
        intro w5 Hown5 hg5
        refine wpList_nil ?_
        (first | dsimp only [List.getElem_toArray, List.getElem_cons_succ, List.getElem_cons_zero] | dsimp (maxSteps := 10000000) only [List.getElem_toArray, List.getElem_cons_succ, List.getElem_cons_zero] | skip); (first | go_frame | simp (maxSteps := 10000000) only [Act.put, List.setIfInBounds_toArray, List.set_cons_succ, List.set_cons_zero] | skip)
        refine wpAny_take (i := 14) (v := .pointer (some ⟨g, m * 32, none⟩)) rfl (by kernel_rfl) (by kernel_rfl) (by kernel_rfl) (fun _ _ _ h => h) (Or.inl ⟨by rfl, ?_⟩) ?_
        · intro w
          go_simp
          try exact IntWalk.i64_in _ (by omega)
          try omega
        (first | dsimp only [List.getElem_toArray, List.getElem_cons_succ, List.getElem_cons_zero] | dsimp (maxSteps := 10000000) only [List.getElem_toArray, List.getElem_cons_succ, List.getElem_cons_zero] | skip); (first | go_frame | simp (maxSteps := 10000000) only [Act.put, List.setIfInBounds_toArray, List.set_cons_succ, List.set_cons_zero] | skip)
        refine wpAny_forced (i := 15) (by kernel_rfl) rfl ?_
        (first | dsimp only [List.getElem_toArray, List.getElem_cons_succ, List.getElem_cons_zero] | dsimp (maxSteps := 10000000) only [List.getElem_toArray, List.getElem_cons_succ, List.getElem_cons_zero] | skip); (first | go_frame | simp (maxSteps := 10000000) only [Act.put, List.setIfInBounds_toArray, List.set_cons_succ, List.set_cons_zero] | skip)
        refine wpList_store_own rfl 29 _ _ rfl base 29 g cap n m rfl Y rfl (L.set k X) Hown5 (mem_set32 H32k.out HX.out) (by rw [List.length_set]; exact HLk.out) HY.out hmn Tryd.sizeHash ?_
        intro w6 Hown6 hg6
        refine wpList_nil ?_
        (first | dsimp only [List.getElem_toArray, List.getElem_cons_succ, List.getElem_cons_zero] | dsimp (maxSteps := 10000000) only [List.getElem_toArray, List.getElem_cons_succ, List.getElem_cons_zero] | skip); (first | go_frame | simp (maxSteps := 10000000) only [Act.put, List.setIfInBounds_toArray, List.set_cons_succ, List.set_cons_zero] | skip)
        refine wpAny_done (by kernel_rfl) ?_ _
        have hb5 := (hb.trans (hb4.mono (by have h2 := hb.size; have h3 := HB.out; omega))).grown hg5 Hb4s.out (fun q hq => by injection hq with hq; omega)
        have hb6 := hb5.grown hg6 (by have := hg5.size; have := Hb4s.out; omega) (fun q hq => by injection hq with hq; omega)
        go_wp2
        go_roundw
        case rel => exact ⟨k + 1, by omega, by go_num, by go_num, by rw [Hnx.out]; exact Hown6, hb6⟩
        case measure => simp [intOf]; omega
    · have hd : decide ((k : Int) < (n : Int) - 1 - k) = false := by simp; omega
      have hrv := swapN_rev hs k (by rw [HL.out]; exact hk) (by rw [HL.out]; omega)
      rw [hrv] at hown
      have HO2 := hid hown
      clear hown hrv
      go_wp2
      go_end0
      exact ⟨rfl, HO2.out, hb⟩
end Go.Proofs.YtbpjlancjdbehaaDoor
