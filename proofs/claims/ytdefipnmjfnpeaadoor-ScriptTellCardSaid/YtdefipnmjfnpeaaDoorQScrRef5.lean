/- the document's script: value, number -/
import Derived.Test.YtdefipnmjfnpeaaDoorQScrRef4

set_option maxRecDepth 100000
namespace Go.Proofs.YtdefipnmjfnpeaaDoor
open Go.RowKit Go.Spec
theorem valF_none (c : UInt8) (h : ∀ m, m < 16 → hexd m ≠ c) : valF c = 0 := by
  have key : ∀ c : Fin 256, (∀ m : Fin 16, hexd m.val ≠ UInt8.ofNat c.val) → valF (UInt8.ofNat c.val) = 0 := by decide +kernel
  have := key ⟨c.toNat, c.toNat_lt⟩ (fun m => by simp only [UInt8.ofNat_toNat]; exact h m.val m.isLt)
  simpa only [UInt8.ofNat_toNat] using this
set_option maxHeartbeats 4000000 in
theorem rvalue_any (c : UInt8) (w : World) :
    Calls Tryd.prog 45 #[.int .u8 (c.toNat : Int)] w fun e w' => e = .returned (.int .i64 (valF c : Nat)) ∧ Below w.heap.size w w' := by
  go_enter Tryd.func45, Tryd.ntmps45
  go_upto_region 2 with fail
  go_loopw [3] (fun i wr => ∃ k : Nat, k ≤ 16 ∧ i = .int .i64 (k : Int) ∧ (∀ m, m < k → hexd m ≠ c) ∧ Below w.heap.size w wr) (fun i _ => 16 - (intOf i).toNat)
  case atStart => exact ⟨0, by omega, rfl, fun m h => by omega, Below.refl _ _⟩
  case round =>
    obtain ⟨k, hk, rfl, hno, hb⟩ := hrel
    have HB := hid hb; have HNo := hid hno; clear hb hno
    by_cases hlt : k < 16
    · have hkI : (k : Int) < 16 := by omega
      have C1 := hid (rdigitB k hlt wr)
      by_cases he : hexd k = c
      · have HV := hid (show valF c = k by rw [← he, valF_hexd k hlt])
        rw [he] at C1
        clear he
        go_wp2_with (go_at_call 39; refine C1.out.mono ?_; rintro e w5 ⟨rfl, hb5⟩)
        go_ret
        exact ⟨by rw [HV.out]; rfl, bth HB.out hb5⟩
      · have HN2 := hid (show ∀ m, m < k + 1 → hexd m ≠ c from fun m h => by
          by_cases hm : m < k
          · exact HNo.out m hm
          · rw [show m = k by omega]; exact he)
        have hne : ¬ (((hexd k).toNat : Int) = (c.toNat : Int)) := fun h => he (UInt8.toNat.inj (by omega))
        have hne2 : ¬ (hexd k).toNat = c.toNat := fun h => he (UInt8.toNat.inj h)
        generalize hexd k = D at *
        clear he
        go_wp2_with (go_at_call 39; refine C1.out.mono ?_; rintro e w5 ⟨rfl, hb5⟩)
        go_roundw
        case rel => exact ⟨k + 1, by omega, by go_num, HN2.out, bth HB.out hb5⟩
        case measure => simp [intOf]; omega
    · obtain rfl : k = 16 := by omega
      have HV := hid (valF_none c HNo.out)
      clear hlt
      go_wp2_with fail
      go_ret
      exact ⟨by rw [HV.out]; rfl, HB.out⟩
theorem numS_take (w : List UInt8) (m k : Nat) (c : UInt8) (hm : m ≤ k) (hc : w[k]? = some c) : ((w.take (k + 1)).drop m).foldl numF 0 = numF (((w.take k).drop m).foldl numF 0) c := by
  have hl : k < w.length := (List.getElem?_eq_some_iff.1 hc).1
  rw [List.take_add_one, hc]
  simp only [Option.toList_some]
  rw [List.drop_append_of_le_length (by rw [List.length_take]; omega), List.foldl_append]
  rfl
set_option maxHeartbeats 8000000 in
theorem rnumber_any (l : List UInt8) (w : World) (hl : l.length ≤ 1000000000) :
    Calls Tryd.prog 34 #[sv l] w fun e w' => e = .returned (.int .i64 (numL l)) ∧ Below w.heap.size w w' := by
  obtain ⟨neg, hneg⟩ : ∃ b, negW l = b := ⟨_, rfl⟩
  obtain ⟨m, hm⟩ : ∃ m : Nat, (if neg then 1 else 0) = m := ⟨_, rfl⟩
  go_enter Tryd.func34, Tryd.ntmps34
  go_upto_region 2 with fail
  go_cut [4] (fun p wx => p = .bool neg ∧ w = wx)
  case first =>
    cases l with
    | nil =>
      obtain rfl : neg = false := hneg.symm
      clear hneg hm hl
      go_wp2_with fail
      go_meet
      exact ⟨rfl, rfl⟩
    | cons c r =>
      by_cases hc : c = 45
      · subst hc
        obtain rfl : neg = true := hneg.symm
        have hlI : (0 : Int) < ((45 :: r : List UInt8).length : Int) := by simp
        have hl0 : 0 < (45 :: r : List UInt8).length := by simp
        clear hneg hm hl
        go_wp2_with fail
        go_meet
        exact ⟨rfl, rfl⟩
      · obtain rfl : neg = false := by
          rw [← hneg]; unfold negW; simp [hc]
        have hne : ¬ ((c.toNat : Int) = 45) := fun h => hc (UInt8.toNat.inj (by simp; omega))
        have hne2 : ¬ c.toNat = 45 := fun h => hc (UInt8.toNat.inj (by simp; omega))
        have hl0 : 0 < (c :: r : List UInt8).length := by simp
        clear hneg hm hl hc
        go_wp2_with fail
        go_meet
        exact ⟨by simp [hne], rfl⟩
  case rest =>
    obtain ⟨rfl, rfl⟩ := hcut
    have HN := hid (And.intro hneg hm)
    have hm1 : m ≤ 1 := by rw [← hm]; split <;> omega
    clear hneg hm
    go_upto_region 4 with fail
    go_loopw [3, 5] (fun nn i wr => ∃ k : Nat, k ≤ l.length ∧ i = .int .i64 (k : Int) ∧ nn = .int .i64 (((l.take k).drop m).foldl numF 0) ∧ Below w.heap.size w wr) (fun _ i _ => l.length - (intOf i).toNat)
    case atStart => exact ⟨0, by omega, rfl, by simp, Below.refl _ _⟩
    case round =>
      obtain ⟨k, hk, rfl, rfl, hb⟩ := hrel
      have HB := hid hb; clear hb
      have hr := numFold_range ((l.take k).drop m) (n := 0) (by omega)
      by_cases hlt : k < l.length
      · have hkI : (k : Int) < (l.length : Int) := by omega
        obtain ⟨c, hc⟩ : ∃ c, l[k] = c := ⟨_, rfl⟩
        have hc' : l[k]? = some c := by rw [List.getElem?_eq_getElem hlt, hc]
        by_cases hsk : k < m
        · have hk0 : k = 0 := by omega
          have hneg : neg = true := by
            have := HN.out.2
            cases neg with
            | true => rfl
            | false => simp at this; omega
          have HZ := hid (show ((l.take (k + 1)).drop m).foldl numF 0 = ((l.take k).drop m).foldl numF 0 from by
            rw [List.drop_eq_nil_of_le (by rw [List.length_take]; omega), List.drop_eq_nil_of_le (by rw [List.length_take]; omega)])
          rw [hneg]
          clear hc hc' hr hneg
          generalize ((l.take k).drop m).foldl numF 0 = n at *
          have hkz : (k : Int) = 0 := by omega
          clear hsk
          go_wp2
          go_roundw
          case rel => exact ⟨k + 1, by omega, by go_num, by rw [HZ.out], HB.out⟩
          case measure => simp [intOf]; omega
        · have HZ := hid (numS_take l m k c (by omega) hc')
          generalize ((l.take k).drop m).foldl numF 0 = n at *
          obtain ⟨D, hD⟩ : ∃ D, valF c = D := ⟨_, rfl⟩
          have hD16 := valF_lt c
          have C1 := hid (rvalue_any c wr)
          obtain ⟨A, hA⟩ : ∃ A : Int, -9223372036854775808 + (D : Int) = A := ⟨_, rfl⟩
          obtain ⟨B, hB⟩ : ∃ B : Int, A.tdiv 10 = B := ⟨_, rfl⟩
          have HFF := hid (show numF n c = if n < B ∨ 9 < D then 0 else n * 10 - (D : Int) from by
            unfold numF
            rw [hD, ← hB, ← hA]; rfl)
          rw [hD] at C1 hD16
          have q1 : wrap64 (-9223372036854775808 + (D : Int)) = A := by rw [hA]; unfold wrap64; omega
          have hBr : -922337203685477580 ≤ B ∧ B ≤ 0 := by
            have e : A.tdiv 10 = -((9223372036854775808 - (D : Int)) / 10) := by
              rw [show A = -(9223372036854775808 - (D : Int)) by omega, Int.neg_tdiv, Int.tdiv_eq_ediv_of_nonneg (by omega)]
            omega
          have q3 : wrap64 B = B := by unfold wrap64; omega
          have Hn2 := hid hr
          clear hD hBr hr hc'
          by_cases hk0 : k = 0
          · have hneg : neg = false := by
              have := HN.out.2
              cases neg with
              | false => rfl
              | true => simp at this; omega
            rw [hneg]
            have hkz : (k : Int) = 0 := by omega
            have hlt0 : 0 < l.length := by omega
            have hc0 : l[0]'hlt0 = c := by subst hk0; exact hc
            clear hneg hk0 hsk
            by_cases h1 : n < B
            · have HF := hid (show numF n c = 0 by rw [HFF.out, if_pos (.inl h1)])
              have d1 : decide (n < B) = true := decide_eq_true h1
              clear h1
              go_wp2_with (go_at_call 45; refine C1.out.mono ?_; rintro e w5 ⟨rfl, hb5⟩)
              go_roundw
              case rel => exact ⟨k + 1, by omega, by go_num, by rw [HZ.out, HF.out]; try rw [hwG], bth HB.out hb5⟩
              case measure => simp [intOf]; omega
            · have d1 : decide (n < B) = false := decide_eq_false h1
              by_cases h2 : 9 < D
              · have HF := hid (show numF n c = 0 by rw [HFF.out, if_pos (.inr h2)])
                have d2 : decide ((9 : Int) < (D : Int)) = true := decide_eq_true (by omega)
                have h2I : (9 : Int) < (D : Int) := by omega
                clear h1
                go_wp2_with (go_at_call 45; refine C1.out.mono ?_; rintro e w5 ⟨rfl, hb5⟩)
                go_roundw
                case rel => exact ⟨k + 1, by omega, by go_num, by rw [HZ.out, HF.out]; try rw [hwG], bth HB.out hb5⟩
                case measure => simp [intOf]; omega
              · have d2 : decide ((9 : Int) < (D : Int)) = false := decide_eq_false (by omega)
                have h2I : ¬ (9 : Int) < (D : Int) := by omega
                have HF := hid (show numF n c = n * 10 - (D : Int) by rw [HFF.out, if_neg (by rintro (h | h) <;> contradiction)])
                have hr2 := numF_range c Hn2.out
                rw [HF.out] at hr2
                obtain ⟨E, hE⟩ : ∃ E, n * 10 = E := ⟨_, rfl⟩
                rw [hE] at hr2
                have hwE : wrap64 E = E := by unfold wrap64; omega
                obtain ⟨G, hG⟩ : ∃ G, E - (D : Int) = G := ⟨_, rfl⟩
                rw [hG] at hr2
                have hwG : wrap64 G = G := by unfold wrap64; omega
                have HF := hid (show numF n c = G by rw [HF.out, hE, hG])
                clear h1 hr2 h2
                go_wp2_with (go_at_call 45; refine C1.out.mono ?_; rintro e w5 ⟨rfl, hb5⟩)
                go_roundw
                case rel => exact ⟨k + 1, by omega, by go_num, by rw [HZ.out, HF.out]; try rw [hwG], bth HB.out hb5⟩
                case measure => simp [intOf]; omega
          · have hkz : ¬ (k : Int) = 0 := by omega
            have hkb : ((k : Int) == 0) = false := by simpa using hkz
            have hkn : decide ((k : Int) = 0) = false := decide_eq_false hkz
            clear hk0 hsk
            by_cases h1 : n < B
            · have HF := hid (show numF n c = 0 by rw [HFF.out, if_pos (.inl h1)])
              have d1 : decide (n < B) = true := decide_eq_true h1
              clear h1
              go_wp2_with (go_at_call 45; refine C1.out.mono ?_; rintro e w5 ⟨rfl, hb5⟩)
              go_roundw
              case rel => exact ⟨k + 1, by omega, by go_num, by rw [HZ.out, HF.out]; try rw [hwG], bth HB.out hb5⟩
              case measure => simp [intOf]; omega
            · have d1 : decide (n < B) = false := decide_eq_false h1
              by_cases h2 : 9 < D
              · have HF := hid (show numF n c = 0 by rw [HFF.out, if_pos (.inr h2)])
                have d2 : decide ((9 : Int) < (D : Int)) = true := decide_eq_true (by omega)
                have h2I : (9 : Int) < (D : Int) := by omega
                clear h1
                go_wp2_with (go_at_call 45; refine C1.out.mono ?_; rintro e w5 ⟨rfl, hb5⟩)
                go_roundw
                case rel => exact ⟨k + 1, by omega, by go_num, by rw [HZ.out, HF.out]; try rw [hwG], bth HB.out hb5⟩
                case measure => simp [intOf]; omega
              · have d2 : decide ((9 : Int) < (D : Int)) = false := decide_eq_false (by omega)
                have h2I : ¬ (9 : Int) < (D : Int) := by omega
                have HF := hid (show numF n c = n * 10 - (D : Int) by rw [HFF.out, if_neg (by rintro (h | h) <;> contradiction)])
                have hr2 := numF_range c Hn2.out
                rw [HF.out] at hr2
                obtain ⟨E, hE⟩ : ∃ E, n * 10 = E := ⟨_, rfl⟩
                rw [hE] at hr2
                have hwE : wrap64 E = E := by unfold wrap64; omega
                obtain ⟨G, hG⟩ : ∃ G, E - (D : Int) = G := ⟨_, rfl⟩
                rw [hG] at hr2
                have hwG : wrap64 G = G := by unfold wrap64; omega
                have HF := hid (show numF n c = G by rw [HF.out, hE, hG])
                clear h1 hr2 h2
                go_wp2_with (go_at_call 45; refine C1.out.mono ?_; rintro e w5 ⟨rfl, hb5⟩)
                go_roundw
                case rel => exact ⟨k + 1, by omega, by go_num, by rw [HZ.out, HF.out]; try rw [hwG], bth HB.out hb5⟩
                case measure => simp [intOf]; omega
      · obtain rfl : k = l.length := by omega
        have HV := hid (show ((l.take l.length).drop m).foldl numF 0 = numS l from by
          unfold numS; rw [List.take_length, HN.out.1, HN.out.2])
        have HL := hid (show numL l = if neg then ((l.take l.length).drop m).foldl numF 0 else wrap64 (-((l.take l.length).drop m).foldl numF 0) from by
          unfold numL; rw [HN.out.1, HV.out])
        clear hlt hr
        generalize ((l.take l.length).drop m).foldl numF 0 = n at *
        cases neg with
        | true =>
          go_wp2_with fail
          go_ret
          exact ⟨by rw [HL.out]; rfl, HB.out⟩
        | false =>
          go_wp2_with fail
          go_ret
          exact ⟨by rw [HL.out]; rfl, HB.out⟩
end Go.Proofs.YtdefipnmjfnpeaaDoor
