/- speculumref06.Path -/
import Derived.Test.YtdllaenbkfajdaaDoorPathProg
import Derived.Test.YtdllaenbkfajdaaDoorTreeRRoot2
set_option maxRecDepth 100000
namespace Go.Proofs.YtdllaenbkfajdaaDoor
open Go.RowKit Go.Spec
def RPathAt (n : Nat) : Prop := ∀ (hs : List (List UInt8)) (v : Value) (i : Nat) (w : World), hs.length ≤ n → hs.length ≤ 1000000 → SlAt w 32 v (hcs hs) → i < hs.length →
    Calls Tryd.prog 31 #[v, .int .i64 (i : Int)] w fun e w' => (∃ u, e = .returned (.tuple #[u, .int .i64 0]) ∧ w'.ownsRow w.heap.size 25 32 u (pathL hs i).length (hflat (pathL hs i))) ∧ Below w.heap.size w w'
set_option maxHeartbeats 1000000 in
theorem rpath_out (v : Value) (hs : List (List UInt8)) (i : Int) (w : World) (hS : SlAt w 32 v (hcs hs)) (hl : hs.length ≤ 1000000) (hi : ¬ inN i hs.length) :
    Calls Tryd.prog 31 #[v, .int .i64 i] w fun e w' => e = .returned (.tuple #[.slice none 0 0, .int .i64 2]) ∧ Below w.heap.size w w' := by
  obtain ⟨a, cap, rfl, hcap⟩ := hS.formH
  clear hS
  by_cases h0 : i < 0
  · have d0 : decide (i < 0) = true := by simpa using h0
    clear h0
    go_enter Tryd.func31, Tryd.ntmps31
    go_wp2
    go_ret2
    exact ⟨rfl, Below.refl _ _⟩
  · have d0 : decide (i < 0) = false := by simpa using h0
    have d1 : decide ((hs.length : Int) ≤ i) = true := by unfold inN at hi; simp; omega
    clear h0 hi
    go_enter Tryd.func31, Tryd.ntmps31
    go_wp2
    go_ret2
    exact ⟨rfl, Below.refl _ _⟩
set_option maxHeartbeats 1000000 in
theorem rpath_one (v : Value) (hs : List (List UInt8)) (i : Nat) (w : World) (hS : SlAt w 32 v (hcs hs)) (hl : hs.length = 1) (hi : i < hs.length) :
    Calls Tryd.prog 31 #[v, .int .i64 (i : Int)] w fun e w' => (∃ u, e = .returned (.tuple #[u, .int .i64 0]) ∧ w'.ownsRow w.heap.size 25 32 u (pathL hs i).length (hflat (pathL hs i))) ∧ Below w.heap.size w w' := by
  obtain ⟨a, cap, rfl, hcap⟩ := hS.formH
  rw [path_one hs i (by omega)]
  have d0 : decide ((i : Int) < 0) = false := by simp
  have d1 : decide (hs.length ≤ i) = false := by simp; omega
  have d2 : ((hs.length : Int) == 1) = true := by rw [hl]; rfl
  clear hS hl hi
  go_enter Tryd.func31, Tryd.ntmps31
  go_wp2
  go_ret2
  exact ⟨⟨_, rfl, World.ownsRow_nil _ _ _ _⟩, Below.refl _ _⟩
set_option maxHeartbeats 4000000 in
theorem rpath_many (n : Nat) (ih : RPathAt n) (A : List (List UInt8)) (v : Value) (j : Nat) (w : World) (hn : A.length ≤ n + 1) (hA1 : A.length ≤ 1000000) (h2 : 2 ≤ A.length) (hA : SlAt w 32 v (hcs A)) (hj : j < A.length) :
    Calls Tryd.prog 31 #[v, .int .i64 (j : Int)] w fun e w' => (∃ u, e = .returned (.tuple #[u, .int .i64 0]) ∧ w'.ownsRow w.heap.size 25 32 u (pathL A j).length (hflat (pathL A j))) ∧ Below w.heap.size w w' := by
  obtain ⟨i0, hi0, hz0, hz1, hz2⟩ := info_parts Tryd.infoHash
  obtain ⟨a, c', rfl, hc'⟩ := hA.formH
  have d0 : decide ((j : Int) < 0) = false := by simp
  have d1 : decide (A.length ≤ j) = false := by simp; omega
  have d2 : ((A.length : Int) == 1) = false := beq_eq_false_iff_ne.mpr (by omega)
  obtain ⟨b, o, rfl, hblt⟩ := hA.addr (by rw [hcs_length]; omega)
  obtain ⟨hk0, hk1⟩ := splitN_in A.length h2
  have hT := hA.takeS (splitN A.length) (by rw [hcs_length]; omega)
  have hD := hA.dropS (splitN A.length) (by rw [hcs_length]; exact hk1)
  rw [hcs_take] at hT
  rw [hcs_drop] at hD
  have Hsp := hid (fun w0 => rsplit_big A.length w0 h2 (Nat.le_trans hA1 (by decide)))
  have hA32 := hA.len32
  have lt1 := rootL_len _ (A.take (splitN A.length)) (Nat.le_refl _) (fun x hx => hA32 x (List.mem_of_mem_take hx))
  have lt2 := rootL_len _ (A.drop (splitN A.length)) (Nat.le_refl _) (fun x hx => hA32 x (List.mem_of_mem_drop hx))
  have hpm := path_many A j h2
  have hPl := path_len A j 20 hj (by omega)
  have e1 : (A.take (splitN A.length)).length = splitN A.length := by rw [List.length_take]; omega
  have e2 : (A.drop (splitN A.length)).length = A.length - splitN A.length := by rw [List.length_drop]
  have hn1 : (A.take (splitN A.length)).length ≤ n := by omega
  have hn2 : (A.drop (splitN A.length)).length ≤ n := by omega
  have hlA1 : (A.take (splitN A.length)).length ≤ 1000000 := by omega
  have hlA2 : (A.drop (splitN A.length)).length ≤ 1000000 := by omega
  generalize A.take (splitN A.length) = A1 at *
  generalize A.drop (splitN A.length) = A2 at *
  generalize splitN A.length = k at *
  have E1 := hid e1; have E2 := hid e2
  clear e1 e2 hn
  have kI : (k : Int) ≤ (A.length : Int) := by omega
  have hkc : k ≠ c' := by omega
  have HT := hid hT; have HD := hid hD
  by_cases hjk : j < k
  · rw [if_pos hjk] at hpm
    have hdk : decide (j < k) = true := by simpa using hjk
    have I := hid (ih A1 (.slice (some ⟨b, o, none⟩) k c') j w hn1 hlA1 hT (by rw [E1.out]; exact hjk))
    have R := hid (fun w0 hS => rroot_any A2 (.slice (some ⟨b, o + k * 32, none⟩) (A.length - k) (c' - k)) w0 hlA2 hS)
    have hQl : (pathL A1 j).length ≤ 20 := by rw [hpm, List.length_append] at hPl; omega
    generalize hQ : pathL A1 j = Q at *
    generalize hS : rootL A2 = S at *
    have HRl := hid lt2
    have Hpm := hid hpm
    clear hpm hPl lt1 lt2 hA hA32 hD hT hQ hS
    go_enter Tryd.func31, Tryd.ntmps31
    go_upto_region 8 with (first
      | (go_at_call 21; refine (Hsp.out _).mono ?_; rintro e w1 ⟨rfl, rfl⟩)
      | (go_at_call 31; refine I.out.mono ?_; rintro e w2 ⟨⟨u, rfl, hown⟩, hb2⟩))
    have Hown := hid hown; have HD2 := hid (HD.out.below hb2 (Nat.le_refl _))
    clear hown
    go_wp2_with (first
      | (go_at_call 14; refine (R.out _ HD2.out).mono ?_; rintro e w3 ⟨rfl, hb3⟩)
      | (refine wpList_buildSlice_one rfl 22 25 _ rfl 32 (hv zero32) (hv S) (hc S) rfl Tryd.underlying22 Tryd.infoHash2 rfl (by rw [hc_size, HRl.out]) (by decide) (by decide) ?_)
      | (at_builtin; go_must (refine wpList_app rfl _ _ 22 rfl w.heap.size 25 i0 (hv zero32) 32 32 Tryd.underlying22 hi0 hz0 hz1 hz2 rfl (by decide) u Q.length (hflat Q) rfl ?c1 ⟨w3.heap.size, 0, none⟩ 1 1 (S.map bcell) rfl ?c2 ?c3 ?c4 ?c5 ?c6 ?c7 ?_)))
    case c1 => exact (Hown.out.later hb3).alloc _
    case c2 => simp [HRl.out]
    case c3 =>
      intro j u hj
      exact row_alloc (w := w3) (cs := hc S) (t := 25) (fr := (0, 0)) j u (by rw [hc_toList]; exact hj)
    case c4 => exact bcell_one S
    case c5 => unfold maxLen; omega
    case c6 => omega
    case c7 => have := (bth hb2 hb3).size; simp; omega
    intro v' w5 hown5 hgrow hat
    have hb5 := ((bth hb2 hb3).alloc (bth hb2 hb3).size (.cells (hc S) 25)).grown hgrow (by have := (bth hb2 hb3).size; simp; omega) (fun q hq => ((Hown.out.later hb3).lt q hq).1)
    go_wp2
    go_ret2
    refine ⟨⟨v', rfl, ?_⟩, hb5⟩
    rw [Hpm.out, List.length_append, hflat_snoc]
    exact hown5
  · rw [if_neg hjk] at hpm
    have hdk : decide (j < k) = false := by simpa using hjk
    obtain ⟨j2, hj2⟩ : ∃ j2, j - k = j2 := ⟨_, rfl⟩
    have ej : (j : Int) - (k : Int) = (j2 : Int) := by omega
    rw [hj2] at hpm
    have I := hid (ih A2 (.slice (some ⟨b, o + k * 32, none⟩) (A.length - k) (c' - k)) j2 w hn2 hlA2 hD (by rw [E2.out]; omega))
    have R := hid (fun w0 hS => rroot_any A1 (.slice (some ⟨b, o, none⟩) k c') w0 hlA1 hS)
    have hQl : (pathL A2 j2).length ≤ 20 := by rw [hpm, List.length_append] at hPl; omega
    generalize hQ : pathL A2 j2 = Q at *
    generalize hS : rootL A1 = S at *
    have HRl := hid lt1
    have Hpm := hid hpm
    clear hpm hPl lt1 lt2 hA hA32 hD hT hQ hS
    go_enter Tryd.func31, Tryd.ntmps31
    go_upto_region 10 with (first
      | (go_at_call 21; refine (Hsp.out _).mono ?_; rintro e w1 ⟨rfl, rfl⟩)
      | (go_at_call 31; refine I.out.mono ?_; rintro e w2 ⟨⟨u, rfl, hown⟩, hb2⟩))
    have Hown := hid hown; have HD2 := hid (HT.out.below hb2 (Nat.le_refl _))
    clear hown
    go_wp2_with (first
      | (go_at_call 14; refine (R.out _ HD2.out).mono ?_; rintro e w3 ⟨rfl, hb3⟩)
      | (refine wpList_buildSlice_one rfl 22 25 _ rfl 32 (hv zero32) (hv S) (hc S) rfl Tryd.underlying22 Tryd.infoHash2 rfl (by rw [hc_size, HRl.out]) (by decide) (by decide) ?_)
      | (at_builtin; go_must (refine wpList_app rfl _ _ 22 rfl w.heap.size 25 i0 (hv zero32) 32 32 Tryd.underlying22 hi0 hz0 hz1 hz2 rfl (by decide) u Q.length (hflat Q) rfl ?c1 ⟨w3.heap.size, 0, none⟩ 1 1 (S.map bcell) rfl ?c2 ?c3 ?c4 ?c5 ?c6 ?c7 ?_)))
    case c1 => exact (Hown.out.later hb3).alloc _
    case c2 => simp [HRl.out]
    case c3 =>
      intro j u hj
      exact row_alloc (w := w3) (cs := hc S) (t := 25) (fr := (0, 0)) j u (by rw [hc_toList]; exact hj)
    case c4 => exact bcell_one S
    case c5 => unfold maxLen; omega
    case c6 => omega
    case c7 => have := (bth hb2 hb3).size; simp; omega
    intro v' w5 hown5 hgrow hat
    have hb5 := ((bth hb2 hb3).alloc (bth hb2 hb3).size (.cells (hc S) 25)).grown hgrow (by have := (bth hb2 hb3).size; simp; omega) (fun q hq => ((Hown.out.later hb3).lt q hq).1)
    go_wp2
    go_ret2
    refine ⟨⟨v', rfl, ?_⟩, hb5⟩
    rw [Hpm.out, List.length_append, hflat_snoc]
    exact hown5
theorem rpath_at : ∀ n, RPathAt n
  | 0 => fun hs v i w hn hl hS hi => by omega
  | n + 1 => fun hs v i w hn hl hS hi => by
    by_cases h2 : 2 ≤ hs.length
    · exact rpath_many n (rpath_at n) hs v i w hn hl h2 hS hi
    · exact rpath_one v hs i w hS (by omega) hi
end Go.Proofs.YtdllaenbkfajdaaDoor
