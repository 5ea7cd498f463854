/- the law PathsPath: the walk -/
import Derived.Test.YtdllaenbkfajdaaDoorPathFound
set_option maxRecDepth 100000
namespace Go.Proofs.YtdllaenbkfajdaaDoor
open Go.RowKit Go.Spec
def pathX (hs : List (List UInt8)) (i : Int) : List (List UInt8) := if inN i hs.length then pathL hs i.toNat else []
def pathE (hs : List (List UInt8)) (i : Int) : Int := if inN i hs.length then 0 else 2
theorem pathX_len (hs : List (List UInt8)) (i : Int) (hl : hs.length ≤ 1000000) : (pathX hs i).length ≤ 20 := by
  unfold pathX; split
  · rename_i h
    obtain ⟨h1, h2⟩ := h
    exact path_len hs i.toNat 20 (by omega) (by omega)
  · simp
theorem slNil (w : World) : SlAt w 32 (.slice none 0 0) (hcs []) := ⟨Option.none, 0, rfl, Nat.le_refl _, fun _ h => by simp [hcs] at h, fun i cs h => by simp [hcs] at h⟩
theorem path_any (v : Value) (hs : List (List UInt8)) (i : Int) (w : World) (hS : SlAt w 32 v (hcs hs)) (hl : hs.length ≤ 1000000) (hG : ShaG w) :
    Calls Tryd.prog 30 #[v, .int .i64 i] w fun e w' => (∃ u, e = .returned (.tuple #[u, .int .i64 (pathE hs i)]) ∧ SlAt w' 32 u (hcs (pathX hs i))) ∧ Below w.heap.size w w' := by
  unfold pathE pathX
  by_cases h : inN i hs.length
  · obtain ⟨h1, h2⟩ := id h
    obtain ⟨a, rfl⟩ : ∃ a : Nat, i = a := ⟨i.toNat, by omega⟩
    rw [if_pos h, if_pos h]
    exact path_sl v hs a w hS hl (by omega) hG
  · rw [if_neg h, if_neg h]
    exact (path_out v hs i w hS hl h).mono fun _ _ ⟨a, b⟩ => ⟨⟨_, a, slNil _⟩, b⟩
theorem rpath_any (v : Value) (hs : List (List UInt8)) (i : Int) (w : World) (hS : SlAt w 32 v (hcs hs)) (hl : hs.length ≤ 1000000) :
    Calls Tryd.prog 31 #[v, .int .i64 i] w fun e w' => (∃ u, e = .returned (.tuple #[u, .int .i64 (pathE hs i)]) ∧ SlAt w' 32 u (hcs (pathX hs i))) ∧ Below w.heap.size w w' := by
  unfold pathE pathX
  by_cases h : inN i hs.length
  · obtain ⟨h1, h2⟩ := id h
    obtain ⟨a, rfl⟩ : ∃ a : Nat, i = a := ⟨i.toNat, by omega⟩
    rw [if_pos h, if_pos h]
    exact (rpath_at _ hs v a w (Nat.le_refl _) hl hS (by omega)).mono fun _ _ ⟨⟨u, he, hown⟩, hb⟩ => ⟨⟨u, he, SlAt.of_owns (size := 32) (hs := pathL hs a) hown (path_32 hs.length hs a (Nat.le_refl _) hS.len32)⟩, hb⟩
  · rw [if_neg h, if_neg h]
    exact (rpath_out v hs i w hS hl h).mono fun _ _ ⟨a, b⟩ => ⟨⟨_, a, slNil _⟩, b⟩
set_option maxHeartbeats 4000000 in
theorem pathsPath_law (v : Value) (hs : List (List UInt8)) (x : Int) (w : World) (hS : SlAt w 32 v (hcs hs)) (hl : hs.length ≤ 9223372036854775807) (hx : -9223372036854775808 ≤ x ∧ x ≤ 9223372036854775807) (hG : ShaG w) :
    Calls Tryd.prog 9 #[v, .int .i64 x] w fun e w' => e = .returned (.bool true) ∧ Below w.heap.size w w' := by
  have HG := hid hG; clear hG
  have hSv := hS
  obtain ⟨a, cap, rfl, hcap⟩ := hSv.formH
  clear hSv
  by_cases h1 : 80 < hs.length
  · have hd : decide ((80 : Int) < (hs.length : Int)) = true := by simp; omega
    clear h1 hS hx
    go_enter Tryd.func9, Tryd.ntmps9
    go_wp2_with (go_at_call 29; refine (found_any _ HG.out).mono ?_; rintro e w1 ⟨rfl, hb⟩)
    go_ret
    exact ⟨rfl, hb⟩
  · have hd : decide ((80 : Int) < (hs.length : Int)) = false := by simp; omega
    have hn80 : hs.length ≤ 80 := by omega
    have HS := hid hS
    have P := hid (fun i w0 h h0 => path_any (.slice a hs.length cap) hs i w0 h (by omega) h0)
    have R := hid (fun i w0 h => rpath_any (.slice a hs.length cap) hs i w0 h (by omega))
    have Hq := hid (fun i w0 va vb ha hb => same_any va vb (pathX hs i) (pathX hs i) w0 ha hb (by have := pathX_len hs i (by omega); omega) (by have := pathX_len hs i (by omega); omega))
    clear h1 hS hx hl
    go_enter Tryd.func9, Tryd.ntmps9
    go_wp2_with fail
    go_loopw [5] (fun i wr => ∃ k : Nat, k ≤ hs.length + 3 ∧ i = .int .i64 ((k : Int) - 1) ∧ Below w.heap.size w wr) (fun i _ => hs.length + 3 - (intOf i + 1).toNat)
    case atStart => exact ⟨0, by omega, by go_num, Below.refl _ _⟩
    case round =>
      obtain ⟨k, hk, rfl, hb⟩ := hrel
      obtain ⟨K, hK⟩ : ∃ K : Int, (k : Int) - 1 = K := ⟨_, rfl⟩
      have hkl1 : -1 ≤ K := by omega
      have hkl2 : K ≤ 100 := by omega
      rw [hK]
      by_cases hlt : k < hs.length + 3
      · have hdk : decide (K ≤ (hs.length : Int) + 1) = true := by simp; omega
        obtain ⟨J, hJ⟩ : ∃ J : Int, (if K = (hs.length : Int) + 1 then x else K) = J := ⟨_, rfl⟩
        have HP := hid (P.out J); have HR := hid (R.out J); have HQ := hid (Hq.out J)
        have hqq : (pathX hs J == pathX hs J) = true := by simp
        generalize pathX hs J = L at *
        generalize pathE hs J = E at *
        have hEq : (E != E) = false := by simp
        have hKn := hid hK
        have hw : ((K == (hs.length : Int) + 1) = true ∧ x = J) ∨ ((K == (hs.length : Int) + 1) = false ∧ K = J) := by
          by_cases hkk : K = (hs.length : Int) + 1
          · rw [if_pos hkk] at hJ; exact .inl ⟨by simpa using hkk, hJ⟩
          · rw [if_neg hkk] at hJ; exact .inr ⟨by simpa using hkk, hJ⟩
        clear hJ P R Hq hK
        rcases hw with ⟨hw1, rfl⟩ | ⟨hw1, rfl⟩
        all_goals (
          go_wp2_with fail
          refine (HP.out _ (HS.out.below hb (Nat.le_refl _)) (HG.out.later hb)).mono ?_
          rintro e w1 ⟨⟨v1, rfl, hS1⟩, hb1⟩
          have HB1 := hid (bth hb hb1); have HS1 := hid hS1
          clear hb1 hS1
          go_wp2_with fail
          refine (HR.out _ (HS.out.below HB1.out (Nat.le_refl _))).mono ?_
          rintro e w2 ⟨⟨v2, rfl, hS2⟩, hb2⟩
          have HB2 := hid (bth HB1.out hb2); have HS12 := hid (HS1.out.below hb2 (Nat.le_refl _)); have HS2 := hid hS2
          clear hb2 hS2 HB1 HS1
          go_wp2_with fail
          refine (HQ.out _ _ _ HS12.out HS2.out).mono ?_
          rintro e w3 ⟨rfl, hb3⟩
          have HB3 := hid (bth HB2.out hb3)
          clear hb3
          go_wp2
          go_roundw
          case rel => have := hKn.out; exact ⟨k + 1, by omega, by go_num, HB3.out⟩
          case measure => have := hKn.out; simp [intOf]; omega)
      · have hdk : decide (K ≤ (hs.length : Int) + 1) = false := by simp; omega
        go_wp2_with fail
        refine (found_any _ (HG.out.later hb)).mono ?_
        rintro e w8 ⟨rfl, hb8⟩
        go_wp2
        go_ret
        exact ⟨rfl, bth hb hb8⟩
end Go.Proofs.YtdllaenbkfajdaaDoor
