/- paths.Path -/
import Derived.Test.YtbpjlancjdbehaaDoorQPathRev
import Derived.Test.YtbpjlancjdbehaaDoorQTreeLaw
import Derived.Test.YtbpjlancjdbehaaDoorQTreeRRoot
import Derived.Test.YtbpjlancjdbehaaDoorQTreeRootC
import Derived.Test.YtbpjlancjdbehaaDoorQTreeSome

set_option maxRecDepth 100000
namespace Go.Proofs.YtbpjlancjdbehaaDoor
open Go.RowKit Go.Spec
def inN (i : Int) (n : Nat) : Prop := 0 ≤ i ∧ i < n
instance (i : Int) (n : Nat) : Decidable (inN i n) := by unfold inN; infer_instance
theorem path_32 : ∀ (n : Nat) (l : List (List UInt8)) (i : Nat), l.length ≤ n → (∀ x ∈ l, x.length = 32) → ∀ x ∈ pathL l i, x.length = 32
  | 0, l, i, h, _ => by rw [path_one _ _ (by omega)]; simp
  | n + 1, l, i, h, h32 => by
    by_cases h1 : l.length ≤ 1
    · rw [path_one _ _ h1]; simp
    · obtain ⟨s1, s2⟩ := splitN_in l.length (by omega)
      rw [path_many l i (by omega)]
      have ht : ∀ x ∈ l.take (splitN l.length), x.length = 32 := fun x hx => h32 x (List.mem_of_mem_take hx)
      have hd : ∀ x ∈ l.drop (splitN l.length), x.length = 32 := fun x hx => h32 x (List.mem_of_mem_drop hx)
      intro x hx
      split at hx
      · rcases List.mem_append.1 hx with h2 | h2
        · exact path_32 n _ _ (by rw [List.length_take]; omega) ht x h2
        · rw [List.mem_singleton.1 h2]; exact rootL_len _ _ (Nat.le_refl _) hd
      · rcases List.mem_append.1 hx with h2 | h2
        · exact path_32 n _ _ (by rw [List.length_drop]; omega) hd x h2
        · rw [List.mem_singleton.1 h2]; exact rootL_len _ _ (Nat.le_refl _) ht
theorem path_len (l : List (List UInt8)) (i : Nat) (J : Nat) (hi : i < l.length) (h : l.length ≤ 2 ^ J) : (pathL l i).length ≤ J := by
  rw [(path_all l.length l i (Nat.le_refl _) hi).1]
  exact dir_len J _ _ (by omega)
set_option maxHeartbeats 1000000 in
theorem path_out (v : Value) (hs : List (List UInt8)) (i : Int) (w : World) (hS : SlAt w 32 v (hcs hs)) (hl : hs.length ≤ 1000000) (hi : ¬ inN i hs.length) :
    Calls Tryd.prog 56 #[v, .int .i64 i] w fun e w' => e = .returned (.tuple #[.slice none 0 0, .int .i64 2]) ∧ Below w.heap.size w w' := by
  obtain ⟨a, cap, rfl, hcap⟩ := hS.formH
  clear hS
  by_cases h0 : i < 0
  · have d0 : decide (i < 0) = true := by simpa using h0
    clear h0
    go_enter Tryd.func56, Tryd.ntmps56
    go_wp2
    go_ret2
    exact ⟨rfl, Below.refl _ _⟩
  · have d0 : decide (i < 0) = false := by simpa using h0
    have d1 : decide ((hs.length : Int) ≤ i) = true := by unfold inN at hi; simp; omega
    clear h0 hi
    go_enter Tryd.func56, Tryd.ntmps56
    go_wp2
    go_ret2
    exact ⟨rfl, Below.refl _ _⟩
set_option maxHeartbeats 4000000 in
theorem path_in (v : Value) (hs : List (List UInt8)) (i : Nat) (w : World) (hS : SlAt w 32 v (hcs hs)) (hl : hs.length ≤ 1000000) (hi : i < hs.length) (hG : ShaG w) :
    Calls Tryd.prog 56 #[v, .int .i64 (i : Int)] w fun e w' => (∃ u, e = .returned (.tuple #[u, .int .i64 0]) ∧ w'.ownsRow w.heap.size 29 32 u (pathL hs i).length (hflat (pathL hs i))) ∧ Below w.heap.size w w' := by
  have HG := hid hG; clear hG
  obtain ⟨i0, hi0, hz0, hz1, hz2⟩ := info_parts Tryd.infoHash
  obtain ⟨a, cap, rfl, hcap⟩ := hS.formH
  have HS := hid hS
  have H32 := hid hS.len32
  have hpl := path_len hs i 20 hi (by omega)
  have Hpl := hid hpl
  have Hp32 := hid (path_32 hs.length hs i (Nat.le_refl _) H32.out)
  clear hS hpl
  have d0 : decide ((i : Int) < 0) = false := by simp
  have d1 : decide (hs.length ≤ i) = false := by simp; omega
  generalize hP : pathL hs i = P at *
  have HP := hid hP
  clear hP
  go_enter Tryd.func56, Tryd.ntmps56
  go_wp2_with fail
  go_loopw [0, 1, 6] (fun l x ov wr => ∃ (A : List (List UInt8)) (j : Nat) (R : List (List UInt8)) (a' : Option Addr) (c' : Nat), l = .slice a' A.length c' ∧ A.length ≤ c' ∧ SlAt w 32 l (hcs A) ∧ j < A.length ∧ A.length ≤ 1000000 ∧ x = .int .i64 (j : Int) ∧ wr.ownsRow w.heap.size 29 32 ov R.length (hflat R) ∧ P = pathL A j ++ R.reverse ∧ Below w.heap.size w wr) (fun l _ _ _ => match l with | .slice _ n _ => n | _ => 0)
  case atStart => exact ⟨hs, i, [], a, cap, rfl, hcap, HS.out, hi, hl, rfl, World.ownsRow_nil _ _ _ _, by rw [HP.out]; simp, Below.refl _ _⟩
  case round =>
    obtain ⟨A, j, R, a', c', rfl, hc', hAw, hj, hA1, rfl, hown, hPe, hb⟩ := hrel
    have hA := hAw.below hb (Nat.le_refl _)
    clear hi hl hcap d0 d1
    by_cases h2 : 2 ≤ A.length
    · have hd : decide ((1 : Int) < (A.length : Int)) = true := by simp; omega
      obtain ⟨b, o, rfl, hblt⟩ := hA.addr (by rw [hcs_length]; omega)
      obtain ⟨hk0, hk1⟩ := splitN_in A.length h2
      have hT := hA.takeS (splitN A.length) (by rw [hcs_length]; omega)
      have hD := hA.dropS (splitN A.length) (by rw [hcs_length]; exact hk1)
      rw [hcs_take] at hT
      rw [hcs_drop] at hD
      have hTw := hAw.takeS (splitN A.length) (by rw [hcs_length]; omega)
      have hDw := hAw.dropS (splitN A.length) (by rw [hcs_length]; exact hk1)
      rw [hcs_take] at hTw
      rw [hcs_drop] at hDw
      have Hsp := hid (fun w0 => split_big A.length w0 h2 (Nat.le_trans hA1 (by decide)))
      have hRl := hid (show R.length ≤ 20 by have := Hpl.out; rw [hPe, List.length_append, List.length_reverse] at this; omega)
      have hA32 := hA.len32
      have lt1 := rootL_len _ (A.take (splitN A.length)) (Nat.le_refl _) (fun x hx => hA32 x (List.mem_of_mem_take hx))
      have lt2 := rootL_len _ (A.drop (splitN A.length)) (Nat.le_refl _) (fun x hx => hA32 x (List.mem_of_mem_drop hx))
      have hpm := path_many A j h2
      have e1 : (A.take (splitN A.length)).length = splitN A.length := by rw [List.length_take]; omega
      have e2 : (A.drop (splitN A.length)).length = A.length - splitN A.length := by rw [List.length_drop]
      have hlA1 : (A.take (splitN A.length)).length ≤ 1000000 := by omega
      have hlA2 : (A.drop (splitN A.length)).length ≤ 1000000 := by omega
      have hi0s : True := trivial
      generalize A.take (splitN A.length) = A1 at *
      generalize A.drop (splitN A.length) = A2 at *
      generalize splitN A.length = k at *
      have E1 := hid e1; have E2 := hid e2
      clear e1 e2
      have kI : (k : Int) ≤ (A.length : Int) := by omega
      have hkc : k ≠ c' := by omega
      by_cases hjk : j < k
      · rw [if_pos hjk] at hpm
        have hdk : decide (j < k) = true := by simpa using hjk
        have Hpm := hid hpm
        have HR := hid (fun w0 h0 hS => root_any A2 (.slice (some ⟨b, o + k * 32, none⟩) (A.length - k) (c' - k)) w0 hlA2 h0 hS)
        have HRl := hid lt2
        generalize rootL A2 = S at *
        have HSs := hid hD; have HTs := hid hT
        have Hown := hid hown
        have HPe := hid hPe
        have HTw := hid hTw
        clear hDw hTw hAw
        clear hpm lt1 lt2 hA hA32 hD hT hown hPe hi0s
        go_wp2_with (first
          | (go_at_call 45; refine (Hsp.out _).mono ?_; rintro e w1 ⟨rfl, rfl⟩)
          | (go_at_call 25; refine (HR.out _ (HG.out.later hb) HSs.out).mono ?_; rintro e w2 ⟨rfl, hb2⟩)
          | (refine wpList_buildSlice_one rfl 22 29 _ rfl 32 (hv zero32) (hv S) (hc S) rfl Tryd.underlying22 Tryd.infoHash2 rfl (by rw [hc_size, HRl.out]) (by decide) (by decide) ?_)
          | (at_builtin; go_must (refine wpList_app rfl _ _ 22 rfl w.heap.size 29 i0 (hv zero32) 32 32 Tryd.underlying22 hi0 hz0 hz1 hz2 rfl (by decide) _ R.length (hflat R) rfl ?c1 ⟨w2.heap.size, 0, none⟩ 1 1 (S.map bcell) rfl ?c2 ?c3 ?c4 ?c5 ?c6 ?c7 ?_)))
        case c1 => exact (Hown.out.later hb2).alloc _
        case c2 => simp [HRl.out]
        case c3 =>
          intro j u hj
          exact row_alloc (w := w2) (cs := hc S) (t := 29) (fr := (0, 0)) j u (by rw [hc_toList]; exact hj)
        case c4 => exact bcell_one S
        case c5 => have := hRl.out; unfold maxLen; omega
        case c6 => have := hRl.out; omega
        case c7 => have := (bth hb hb2).size; simp; omega
        intro v' w5 hown5 hgrow hat
        have hb3 := (bth hb hb2).alloc (bth hb hb2).size (.cells (hc S) 29)
        have hb5 := hb3.grown hgrow (by have := (bth hb hb2).size; simp; omega) (fun q hq => ((Hown.out.later hb2).lt q hq).1)
        go_wp2
        go_roundw
        case rel =>
          refine ⟨A1, j, R ++ [S], some ⟨b, o, none⟩, c', by rw [E1.out], by rw [E1.out]; omega, HTw.out, by rw [E1.out]; omega, by rw [E1.out]; omega, by go_num, ?_, ?_, hb5⟩
          · rw [hflat_snoc, List.length_append]; exact hown5
          · rw [HPe.out, Hpm.out]; simp
        case measure => simp; omega
      · rw [if_neg hjk] at hpm
        have hdk : decide (j < k) = false := by simpa using hjk
        have Hpm := hid hpm
        have HR := hid (fun w0 h0 hS => root_any A1 (.slice (some ⟨b, o, none⟩) k c') w0 hlA1 h0 hS)
        have HRl := hid lt1
        generalize rootL A1 = S at *
        have HSs := hid hD; have HTs := hid hT
        have Hown := hid hown
        have HPe := hid hPe
        have HDw := hid hDw
        clear hDw hTw hAw
        obtain ⟨j2, hj2⟩ : ∃ j2, j - k = j2 := ⟨_, rfl⟩
        have ej : (j : Int) - (k : Int) = (j2 : Int) := by omega
        rw [hj2] at Hpm
        clear hpm lt1 lt2 hA hA32 hD hT hown hPe hi0s
        go_wp2_with (first
          | (go_at_call 45; refine (Hsp.out _).mono ?_; rintro e w1 ⟨rfl, rfl⟩)
          | (go_at_call 25; refine (HR.out _ (HG.out.later hb) HTs.out).mono ?_; rintro e w2 ⟨rfl, hb2⟩)
          | (refine wpList_buildSlice_one rfl 22 29 _ rfl 32 (hv zero32) (hv S) (hc S) rfl Tryd.underlying22 Tryd.infoHash2 rfl (by rw [hc_size, HRl.out]) (by decide) (by decide) ?_)
          | (at_builtin; go_must (refine wpList_app rfl _ _ 22 rfl w.heap.size 29 i0 (hv zero32) 32 32 Tryd.underlying22 hi0 hz0 hz1 hz2 rfl (by decide) _ R.length (hflat R) rfl ?c1 ⟨w2.heap.size, 0, none⟩ 1 1 (S.map bcell) rfl ?c2 ?c3 ?c4 ?c5 ?c6 ?c7 ?_)))
        case c1 => exact (Hown.out.later hb2).alloc _
        case c2 => simp [HRl.out]
        case c3 =>
          intro j u hj
          exact row_alloc (w := w2) (cs := hc S) (t := 29) (fr := (0, 0)) j u (by rw [hc_toList]; exact hj)
        case c4 => exact bcell_one S
        case c5 => have := hRl.out; unfold maxLen; omega
        case c6 => have := hRl.out; omega
        case c7 => have := (bth hb hb2).size; simp; omega
        intro v' w5 hown5 hgrow hat
        have hb3 := (bth hb hb2).alloc (bth hb hb2).size (.cells (hc S) 29)
        have hb5 := hb3.grown hgrow (by have := (bth hb hb2).size; simp; omega) (fun q hq => ((Hown.out.later hb2).lt q hq).1)
        go_wp2
        go_roundw
        case rel =>
          refine ⟨A2, j2, R ++ [S], some ⟨b, o + k * 32, none⟩, c' - k, by rw [E2.out], by rw [E2.out]; omega, HDw.out, by rw [E2.out]; omega, by rw [E2.out]; omega, by go_num, ?_, ?_, hb5⟩
          · rw [hflat_snoc, List.length_append]; exact hown5
          · rw [HPe.out, Hpm.out]; simp
        case measure => simp; omega
    · have hd : decide ((1 : Int) < (A.length : Int)) = false := by simp; omega
      rw [path_one A j (by omega), List.nil_append] at hPe
      have hR32 : ∀ x ∈ R, x.length = 32 := fun x hx => Hp32.out x (by rw [hPe]; exact List.mem_reverse.2 hx)
      have hRl : R.length ≤ 20 := by have := Hpl.out; rw [hPe, List.length_reverse] at this; exact this
      have Hown := hid hown
      have RV := hid (rev_any w.heap.size R.length _ R wr rfl (by omega) hR32 hown hb.size)
      have HPe := hid hPe
      clear hown hPe hA hAw
      go_wp2_with fail
      refine RV.out.mono ?_
      rintro e w3 ⟨rfl, hown3, hb3⟩
      have Hown3 := hid hown3
      clear hown3
      go_wp2
      go_ret2
      refine ⟨⟨_, rfl, ?_⟩, hb.trans hb3⟩
      rw [HPe.out, List.length_reverse]
      exact Hown3.out
end Go.Proofs.YtbpjlancjdbehaaDoor
/- speculumref06.Path -/
namespace Go.Proofs.YtbpjlancjdbehaaDoor
open Go.RowKit Go.Spec
def RPathAt (n : Nat) : Prop := ∀ (hs : List (List UInt8)) (v : Value) (i : Nat) (w : World), hs.length ≤ n → hs.length ≤ 1000000 → SlAt w 32 v (hcs hs) → i < hs.length →
    Calls Tryd.prog 46 #[v, .int .i64 (i : Int)] w fun e w' => (∃ u, e = .returned (.tuple #[u, .int .i64 0]) ∧ w'.ownsRow w.heap.size 29 32 u (pathL hs i).length (hflat (pathL hs i))) ∧ Below w.heap.size w w'
set_option maxHeartbeats 1000000 in
theorem rpath_out (v : Value) (hs : List (List UInt8)) (i : Int) (w : World) (hS : SlAt w 32 v (hcs hs)) (hl : hs.length ≤ 1000000) (hi : ¬ inN i hs.length) :
    Calls Tryd.prog 46 #[v, .int .i64 i] w fun e w' => e = .returned (.tuple #[.slice none 0 0, .int .i64 2]) ∧ Below w.heap.size w w' := by
  obtain ⟨a, cap, rfl, hcap⟩ := hS.formH
  clear hS
  by_cases h0 : i < 0
  · have d0 : decide (i < 0) = true := by simpa using h0
    clear h0
    go_enter Tryd.func46, Tryd.ntmps46
    go_wp2
    go_ret2
    exact ⟨rfl, Below.refl _ _⟩
  · have d0 : decide (i < 0) = false := by simpa using h0
    have d1 : decide ((hs.length : Int) ≤ i) = true := by unfold inN at hi; simp; omega
    clear h0 hi
    go_enter Tryd.func46, Tryd.ntmps46
    go_wp2
    go_ret2
    exact ⟨rfl, Below.refl _ _⟩
set_option maxHeartbeats 1000000 in
theorem rpath_one (v : Value) (hs : List (List UInt8)) (i : Nat) (w : World) (hS : SlAt w 32 v (hcs hs)) (hl : hs.length = 1) (hi : i < hs.length) :
    Calls Tryd.prog 46 #[v, .int .i64 (i : Int)] w fun e w' => (∃ u, e = .returned (.tuple #[u, .int .i64 0]) ∧ w'.ownsRow w.heap.size 29 32 u (pathL hs i).length (hflat (pathL hs i))) ∧ Below w.heap.size w w' := by
  obtain ⟨a, cap, rfl, hcap⟩ := hS.formH
  rw [path_one hs i (by omega)]
  have d0 : decide ((i : Int) < 0) = false := by simp
  have d1 : decide (hs.length ≤ i) = false := by simp; omega
  have d2 : ((hs.length : Int) == 1) = true := by rw [hl]; rfl
  clear hS hl hi
  go_enter Tryd.func46, Tryd.ntmps46
  go_wp2
  go_ret2
  exact ⟨⟨_, rfl, World.ownsRow_nil _ _ _ _⟩, Below.refl _ _⟩
set_option maxHeartbeats 4000000 in
theorem rpath_many (n : Nat) (ih : RPathAt n) (A : List (List UInt8)) (v : Value) (j : Nat) (w : World) (hn : A.length ≤ n + 1) (hA1 : A.length ≤ 1000000) (h2 : 2 ≤ A.length) (hA : SlAt w 32 v (hcs A)) (hj : j < A.length) :
    Calls Tryd.prog 46 #[v, .int .i64 (j : Int)] w fun e w' => (∃ u, e = .returned (.tuple #[u, .int .i64 0]) ∧ w'.ownsRow w.heap.size 29 32 u (pathL A j).length (hflat (pathL A j))) ∧ Below w.heap.size w w' := by
  obtain ⟨i0, hi0, hz0, hz1, hz2⟩ := info_parts Tryd.infoHash
  obtain ⟨a, c', rfl, hc'⟩ := hA.formH
  have d0 : decide ((j : Int) < 0) = false := by simp
  have d1 : decide (A.length ≤ j) = false := by simp; omega
  have d2 : ((A.length : Int) == 1) = false := beq_eq_false_iff_ne.mpr (by omega)
  obtain ⟨b, o, rfl, hblt⟩ := hA.addr (by rw [hcs_length]; omega)
  obtain ⟨hk0, hk1⟩ := splitN_in A.length h2
  have hT := hA.takeS (splitN A.length) (by rw [hcs_length]; omega)
  have hD := hA.dropS (splitN A.length) (by rw [hcs_length]; exact hk1)
  rw [hcs_take] at hT
  rw [hcs_drop] at hD
  have Hsp := hid (fun w0 => rsplit_big A.length w0 h2 (Nat.le_trans hA1 (by decide)))
  have hA32 := hA.len32
  have lt1 := rootL_len _ (A.take (splitN A.length)) (Nat.le_refl _) (fun x hx => hA32 x (List.mem_of_mem_take hx))
  have lt2 := rootL_len _ (A.drop (splitN A.length)) (Nat.le_refl _) (fun x hx => hA32 x (List.mem_of_mem_drop hx))
  have hpm := path_many A j h2
  have hPl := path_len A j 20 hj (by omega)
  have e1 : (A.take (splitN A.length)).length = splitN A.length := by rw [List.length_take]; omega
  have e2 : (A.drop (splitN A.length)).length = A.length - splitN A.length := by rw [List.length_drop]
  have hn1 : (A.take (splitN A.length)).length ≤ n := by omega
  have hn2 : (A.drop (splitN A.length)).length ≤ n := by omega
  have hlA1 : (A.take (splitN A.length)).length ≤ 1000000 := by omega
  have hlA2 : (A.drop (splitN A.length)).length ≤ 1000000 := by omega
  generalize A.take (splitN A.length) = A1 at *
  generalize A.drop (splitN A.length) = A2 at *
  generalize splitN A.length = k at *
  have E1 := hid e1; have E2 := hid e2
  clear e1 e2 hn
  have kI : (k : Int) ≤ (A.length : Int) := by omega
  have hkc : k ≠ c' := by omega
  have HT := hid hT; have HD := hid hD
  by_cases hjk : j < k
  · rw [if_pos hjk] at hpm
    have hdk : decide (j < k) = true := by simpa using hjk
    have I := hid (ih A1 (.slice (some ⟨b, o, none⟩) k c') j w hn1 hlA1 hT (by rw [E1.out]; exact hjk))
    have R := hid (fun w0 hS => rroot_any A2 (.slice (some ⟨b, o + k * 32, none⟩) (A.length - k) (c' - k)) w0 hlA2 hS)
    have hQl : (pathL A1 j).length ≤ 20 := by rw [hpm, List.length_append] at hPl; omega
    generalize hQ : pathL A1 j = Q at *
    generalize hS : rootL A2 = S at *
    have HRl := hid lt2
    have Hpm := hid hpm
    clear hpm hPl lt1 lt2 hA hA32 hD hT hQ hS
    go_enter Tryd.func46, Tryd.ntmps46
    go_upto_region 8 with (first
      | (go_at_call 67; refine (Hsp.out _).mono ?_; rintro e w1 ⟨rfl, rfl⟩)
      | (go_at_call 46; refine I.out.mono ?_; rintro e w2 ⟨⟨u, rfl, hown⟩, hb2⟩))
    have Hown := hid hown; have HD2 := hid (HD.out.below hb2 (Nat.le_refl _))
    clear hown
    go_wp2_with (first
      | (go_at_call 42; refine (R.out _ HD2.out).mono ?_; rintro e w3 ⟨rfl, hb3⟩)
      | (refine wpList_buildSlice_one rfl 22 29 _ rfl 32 (hv zero32) (hv S) (hc S) rfl Tryd.underlying22 Tryd.infoHash2 rfl (by rw [hc_size, HRl.out]) (by decide) (by decide) ?_)
      | (at_builtin; go_must (refine wpList_app rfl _ _ 22 rfl w.heap.size 29 i0 (hv zero32) 32 32 Tryd.underlying22 hi0 hz0 hz1 hz2 rfl (by decide) u Q.length (hflat Q) rfl ?c1 ⟨w3.heap.size, 0, none⟩ 1 1 (S.map bcell) rfl ?c2 ?c3 ?c4 ?c5 ?c6 ?c7 ?_)))
    case c1 => exact (Hown.out.later hb3).alloc _
    case c2 => simp [HRl.out]
    case c3 =>
      intro j u hj
      exact row_alloc (w := w3) (cs := hc S) (t := 29) (fr := (0, 0)) j u (by rw [hc_toList]; exact hj)
    case c4 => exact bcell_one S
    case c5 => unfold maxLen; omega
    case c6 => omega
    case c7 => have := (bth hb2 hb3).size; simp; omega
    intro v' w5 hown5 hgrow hat
    have hb5 := ((bth hb2 hb3).alloc (bth hb2 hb3).size (.cells (hc S) 29)).grown hgrow (by have := (bth hb2 hb3).size; simp; omega) (fun q hq => ((Hown.out.later hb3).lt q hq).1)
    go_wp2
    go_ret2
    refine ⟨⟨v', rfl, ?_⟩, hb5⟩
    rw [Hpm.out, List.length_append, hflat_snoc]
    exact hown5
  · rw [if_neg hjk] at hpm
    have hdk : decide (j < k) = false := by simpa using hjk
    obtain ⟨j2, hj2⟩ : ∃ j2, j - k = j2 := ⟨_, rfl⟩
    have ej : (j : Int) - (k : Int) = (j2 : Int) := by omega
    rw [hj2] at hpm
    have I := hid (ih A2 (.slice (some ⟨b, o + k * 32, none⟩) (A.length - k) (c' - k)) j2 w hn2 hlA2 hD (by rw [E2.out]; omega))
    have R := hid (fun w0 hS => rroot_any A1 (.slice (some ⟨b, o, none⟩) k c') w0 hlA1 hS)
    have hQl : (pathL A2 j2).length ≤ 20 := by rw [hpm, List.length_append] at hPl; omega
    generalize hQ : pathL A2 j2 = Q at *
    generalize hS : rootL A1 = S at *
    have HRl := hid lt1
    have Hpm := hid hpm
    clear hpm hPl lt1 lt2 hA hA32 hD hT hQ hS
    go_enter Tryd.func46, Tryd.ntmps46
    go_upto_region 10 with (first
      | (go_at_call 67; refine (Hsp.out _).mono ?_; rintro e w1 ⟨rfl, rfl⟩)
      | (go_at_call 46; refine I.out.mono ?_; rintro e w2 ⟨⟨u, rfl, hown⟩, hb2⟩))
    have Hown := hid hown; have HD2 := hid (HT.out.below hb2 (Nat.le_refl _))
    clear hown
    go_wp2_with (first
      | (go_at_call 42; refine (R.out _ HD2.out).mono ?_; rintro e w3 ⟨rfl, hb3⟩)
      | (refine wpList_buildSlice_one rfl 22 29 _ rfl 32 (hv zero32) (hv S) (hc S) rfl Tryd.underlying22 Tryd.infoHash2 rfl (by rw [hc_size, HRl.out]) (by decide) (by decide) ?_)
      | (at_builtin; go_must (refine wpList_app rfl _ _ 22 rfl w.heap.size 29 i0 (hv zero32) 32 32 Tryd.underlying22 hi0 hz0 hz1 hz2 rfl (by decide) u Q.length (hflat Q) rfl ?c1 ⟨w3.heap.size, 0, none⟩ 1 1 (S.map bcell) rfl ?c2 ?c3 ?c4 ?c5 ?c6 ?c7 ?_)))
    case c1 => exact (Hown.out.later hb3).alloc _
    case c2 => simp [HRl.out]
    case c3 =>
      intro j u hj
      exact row_alloc (w := w3) (cs := hc S) (t := 29) (fr := (0, 0)) j u (by rw [hc_toList]; exact hj)
    case c4 => exact bcell_one S
    case c5 => unfold maxLen; omega
    case c6 => omega
    case c7 => have := (bth hb2 hb3).size; simp; omega
    intro v' w5 hown5 hgrow hat
    have hb5 := ((bth hb2 hb3).alloc (bth hb2 hb3).size (.cells (hc S) 29)).grown hgrow (by have := (bth hb2 hb3).size; simp; omega) (fun q hq => ((Hown.out.later hb3).lt q hq).1)
    go_wp2
    go_ret2
    refine ⟨⟨v', rfl, ?_⟩, hb5⟩
    rw [Hpm.out, List.length_append, hflat_snoc]
    exact hown5
theorem rpath_at : ∀ n, RPathAt n
  | 0 => fun hs v i w hn hl hS hi => by omega
  | n + 1 => fun hs v i w hn hl hS hi => by
    by_cases h2 : 2 ≤ hs.length
    · exact rpath_many n (rpath_at n) hs v i w hn hl h2 hS hi
    · exact rpath_one v hs i w hS (by omega) hi
end Go.Proofs.YtbpjlancjdbehaaDoor
/- the path of any leaf: the program's and the document's, for every number -/
namespace Go.Proofs.YtbpjlancjdbehaaDoor
open Go.RowKit Go.Spec
theorem path_sl (v : Value) (hs : List (List UInt8)) (i : Nat) (w : World) (hS : SlAt w 32 v (hcs hs)) (hl : hs.length ≤ 1000000) (hi : i < hs.length) (hG : ShaG w) :
    Calls Tryd.prog 56 #[v, .int .i64 (i : Int)] w fun e w' => (∃ u, e = .returned (.tuple #[u, .int .i64 0]) ∧ SlAt w' 32 u (hcs (pathL hs i))) ∧ Below w.heap.size w w' :=
  (path_in v hs i w hS hl hi hG).mono fun _ _ ⟨⟨u, he, hown⟩, hb⟩ => ⟨⟨u, he, SlAt.of_owns (size := 32) (hs := pathL hs i) hown (path_32 hs.length hs i (Nat.le_refl _) hS.len32)⟩, hb⟩
def pathX (hs : List (List UInt8)) (i : Int) : List (List UInt8) := if inN i hs.length then pathL hs i.toNat else []
def pathE (hs : List (List UInt8)) (i : Int) : Int := if inN i hs.length then 0 else 2
theorem pathX_len (hs : List (List UInt8)) (i : Int) (hl : hs.length ≤ 1000000) : (pathX hs i).length ≤ 20 := by
  unfold pathX; split
  · rename_i h
    obtain ⟨h1, h2⟩ := h
    exact path_len hs i.toNat 20 (by omega) (by omega)
  · simp
theorem slNil (w : World) : SlAt w 32 (.slice none 0 0) (hcs []) := ⟨Option.none, 0, rfl, Nat.le_refl _, fun _ h => by simp [hcs] at h, fun i cs h => by simp [hcs] at h⟩
theorem path_any (v : Value) (hs : List (List UInt8)) (i : Int) (w : World) (hS : SlAt w 32 v (hcs hs)) (hl : hs.length ≤ 1000000) (hG : ShaG w) :
    Calls Tryd.prog 56 #[v, .int .i64 i] w fun e w' => (∃ u, e = .returned (.tuple #[u, .int .i64 (pathE hs i)]) ∧ SlAt w' 32 u (hcs (pathX hs i))) ∧ Below w.heap.size w w' := by
  unfold pathE pathX
  by_cases h : inN i hs.length
  · obtain ⟨h1, h2⟩ := id h
    obtain ⟨a, rfl⟩ : ∃ a : Nat, i = a := ⟨i.toNat, by omega⟩
    rw [if_pos h, if_pos h]
    exact path_sl v hs a w hS hl (by omega) hG
  · rw [if_neg h, if_neg h]
    exact (path_out v hs i w hS hl h).mono fun _ _ ⟨a, b⟩ => ⟨⟨_, a, slNil _⟩, b⟩
theorem rpath_any (v : Value) (hs : List (List UInt8)) (i : Int) (w : World) (hS : SlAt w 32 v (hcs hs)) (hl : hs.length ≤ 1000000) :
    Calls Tryd.prog 46 #[v, .int .i64 i] w fun e w' => (∃ u, e = .returned (.tuple #[u, .int .i64 (pathE hs i)]) ∧ SlAt w' 32 u (hcs (pathX hs i))) ∧ Below w.heap.size w w' := by
  unfold pathE pathX
  by_cases h : inN i hs.length
  · obtain ⟨h1, h2⟩ := id h
    obtain ⟨a, rfl⟩ : ∃ a : Nat, i = a := ⟨i.toNat, by omega⟩
    rw [if_pos h, if_pos h]
    exact (rpath_at _ hs v a w (Nat.le_refl _) hl hS (by omega)).mono fun _ _ ⟨⟨u, he, hown⟩, hb⟩ => ⟨⟨u, he, SlAt.of_owns (size := 32) (hs := pathL hs a) hown (path_32 hs.length hs a (Nat.le_refl _) hS.len32)⟩, hb⟩
  · rw [if_neg h, if_neg h]
    exact (rpath_out v hs i w hS hl h).mono fun _ _ ⟨a, b⟩ => ⟨⟨_, a, slNil _⟩, b⟩
end Go.Proofs.YtbpjlancjdbehaaDoor
