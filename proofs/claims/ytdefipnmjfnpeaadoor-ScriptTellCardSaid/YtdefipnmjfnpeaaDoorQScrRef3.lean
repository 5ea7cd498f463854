/- the document's script: Line, Put, Same -/
import Derived.Test.YtdefipnmjfnpeaaDoorQScrPut
import Derived.Test.YtdefipnmjfnpeaaDoorQScrRef2

set_option maxRecDepth 100000
namespace Go.Proofs.YtdefipnmjfnpeaaDoor
open Go.RowKit Go.Spec
theorem Tryd.sizeStepR : (Tryd.prog.info? 27).map (·.size) = some 5 := by kernel_rfl
theorem Tryd.sizeArr3 : (Tryd.prog.info? 66).map (·.size) = some 3 := by kernel_rfl
theorem tail_snoc (ls : List (List UInt8)) (z : List UInt8) : tailL (ls ++ [z]) = tailL ls ++ [32] ++ z := by simp [tailL]
set_option maxHeartbeats 8000000 in
theorem rline_any (x : Stp) (w : World) (hi : I64 x) (hl : x.text.length ≤ 100000000) :
    Calls Tryd.prog 15 #[x.v] w fun e w' => e = .returned (sv (lineL x)) ∧ Below w.heap.size w w' := by
  obtain ⟨kind, a, b, c, text⟩ := x
  have HI := hid hi; clear hi
  simp only at hl
  have W1 := hid (fun w9 => rword_any kind w9)
  unfold Stp.v Stp.cs
  simp only
  by_cases hK : isK kind
  · have HE := hid (show lineL ⟨kind, a, b, c, text⟩ = wordT kind.toNat ++ tailL ((([a, b, c].take (numsT kind.toNat)).map Lib.itoa) ++ if textT kind.toNat then [hexW text] else []) ++ [10] from if_pos hK)
    have N1 := hid (fun w9 => rnum_any kind hK w9)
    have T1 := hid (fun w9 => rtexts_any kind hK w9)
    rw [if_pos hK] at W1
    have hne : (wordT kind.toNat == []) = false := by
      rcases kinds kind hK with rfl | rfl | rfl | rfl | rfl | rfl | rfl | rfl | rfl | rfl | rfl | rfl | rfl <;> rfl
    have hWl := word_len kind.toNat
    have hN := nums_le kind.toNat
    have hNI : (numsT kind.toNat : Int) ≤ 3 := Int.ofNat_le.2 hN
    clear hK
    generalize wordT kind.toNat = W0 at *
    generalize numsT kind.toNat = N at *
    generalize textT kind.toNat = tb at *
    go_enter Tryd.func15, Tryd.ntmps15
    go_upto_region 1 with fail
    refine wp_world (fun W => Blk W w.heap.size #[.int .i64 kind, .int .i64 a, .int .i64 b, .int .i64 c, sv text] 27 ∧ Below w.heap.size w W) ⟨Blk.new _ _ _, (Below.refl _ w).alloc (Nat.le_refl _) _⟩ ?_
    rintro y0 ⟨hX, hb0⟩
    have HX0 := hid hX; have HB0 := hid hb0; clear hX hb0
    have x0 : y0.cell? ⟨w.heap.size, 0, none⟩ = some (.int .i64 kind) := HX0.out.cell 0
    have x1 : y0.cell? ⟨w.heap.size, 1, none⟩ = some (.int .i64 a) := HX0.out.cell 1
    have x2 : y0.cell? ⟨w.heap.size, 2, none⟩ = some (.int .i64 b) := HX0.out.cell 2
    have x3 : y0.cell? ⟨w.heap.size, 3, none⟩ = some (.int .i64 c) := HX0.out.cell 3
    have hbld : ∀ w', (Instr.build 66 #[(0, .int .i64 a), (1, .int .i64 b), (2, .int .i64 c)]).run Tryd.prog w' = .ok (.agg #[.int .i64 a, .int .i64 b, .int .i64 c]) w' := fun w' => by kernel_rfl
    go_upto_region 6 with (first
      | (go_at_call 24; refine (W1.out _).mono ?_; rintro e w1 ⟨rfl, h1⟩; obtain rfl := h1.symm)
      | ((with_reducible show wpList _ _ _ ({ dst := _, op := Op.store _ _ _, type := _, pos := _, after := _, guard := _ } :: _) _ _); refine wpList_store_newA rfl 66 _ _ rfl rfl #[.int .i64 a, .int .i64 b, .int .i64 c] rfl _ 66 rfl Tryd.sizeArr3 (by intro v hv; simp at hv; rcases hv with rfl | rfl | rfl <;> rfl) ?_))
    refine wp_world (fun W => Blk W y0.heap.size #[.int .i64 a, .int .i64 b, .int .i64 c] 66 ∧ Blk W w.heap.size #[.int .i64 kind, .int .i64 a, .int .i64 b, .int .i64 c, sv text] 27 ∧ Below w.heap.size w W) ⟨Blk.new _ _ _, HX0.out.alloc _, HB0.out.alloc HB0.out.size _⟩ ?_
    clear x0 x1 x2 x3 hbld HX0 HB0 hne
    generalize y0.heap.size = ga at *
    rintro y1 ⟨hA, hX, hb⟩
    go_loopw [3, 5] (fun s ii wr => ∃ j : Nat, j ≤ N ∧ ii = .int .i64 (j : Int) ∧ s = sv (W0 ++ tailL (([a, b, c].take j).map Lib.itoa)) ∧ Blk wr ga #[.int .i64 a, .int .i64 b, .int .i64 c] 66 ∧ Blk wr w.heap.size #[.int .i64 kind, .int .i64 a, .int .i64 b, .int .i64 c, sv text] 27 ∧ Below w.heap.size w wr) (fun _ ii _ => N - (intOf ii).toNat)
    case atStart => exact ⟨0, by omega, rfl, by simp [tailL], hA, hX, hb⟩
    case round =>
      clear hA hX hb
      obtain ⟨j, hj, rfl, rfl, hA, hX, hb⟩ := hrel
      have HA := hid hA; have HX := hid hX; have HB := hid hb
      clear hA hX hb
      have x0 : wr.cell? ⟨w.heap.size, 0, none⟩ = some (.int .i64 kind) := HX.out.cell 0
      have hSl : (W0 ++ tailL (([a, b, c].take j).map Lib.itoa)).length ≤ 1000 := by
        have h1 := tail_len (([a, b, c].take j).map Lib.itoa) 21 (fun w hw => by
          obtain ⟨z, hz, rfl⟩ := List.mem_map.1 hw
          obtain ⟨i1, i2, i3⟩ := HI.out
          have hm := List.mem_of_mem_take hz
          simp at hm
          rcases hm with rfl | rfl | rfl
          · exact Lib.itoa_length_le _ i1.1 i1.2
          · exact Lib.itoa_length_le _ i2.1 i2.2
          · exact Lib.itoa_length_le _ i3.1 i3.2)
        have h2 : (([a, b, c].take j).map Lib.itoa).length ≤ 3 := by rw [List.length_map, List.length_take]; simp; omega
        have h3 : (([a, b, c].take j).map Lib.itoa).length * (21 + 1) ≤ 3 * (21 + 1) := Nat.mul_le_mul_right _ h2
        rw [List.length_append]; omega
      by_cases hlt : j < N
      · have hjI : (j : Int) < (N : Int) := by omega
        obtain ⟨z, hz⟩ : ∃ z, [a, b, c][j]? = some z := ⟨_, List.getElem?_eq_getElem (by simp; omega)⟩
        have hzr : -9223372036854775808 ≤ z ∧ z ≤ 9223372036854775807 := by
          obtain ⟨h1, h2, h3⟩ := HI.out
          have hm := List.mem_of_getElem? hz
          simp at hm
          rcases hm with rfl | rfl | rfl <;> assumption
        have Htk := hid (show W0 ++ tailL (([a, b, c].take (j + 1)).map Lib.itoa) = W0 ++ tailL (([a, b, c].take j).map Lib.itoa) ++ [32] ++ Lib.itoa z by rw [List.take_add_one, hz]; simp only [Option.toList_some, List.map_append, List.map_cons, List.map_nil]; rw [tail_snoc]; simp)
        have cz : wr.cell? ⟨ga, j, none⟩ = some (.int .i64 z) := by
          have := HA.out.cells j (.int .i64 z) (by
            have e : (#[Value.int .i64 a, Value.int .i64 b, Value.int .i64 c] : Array Value).toList = [a, b, c].map (Value.int .i64) := rfl
            rw [e, List.getElem?_map, hz]; rfl)
          rw [Addr.add_lit, Nat.zero_add] at this
          exact this
        have C1 := hid (rdec_any z.natAbs z (Nat.le_refl _) hzr.1 hzr.2 wr)
        have hzl := Lib.itoa_length_le z hzr.1 hzr.2
        clear hzr hz
        generalize W0 ++ tailL (([a, b, c].take j).map Lib.itoa) = F at *
        have f1 : ¬ 9223372036854775807 < F.length + 1 := by omega
        have f2 : ¬ 9223372036854775807 < F.length + 1 + (Lib.itoa z).length := by omega
        clear hSl hzl
        generalize Lib.itoa z = Z at *
        have hj3 : (j : Int) < 3 := by omega
        go_wp2_with (first
          | (go_at_call 25; refine (N1.out _).mono ?_; rintro e w4 ⟨rfl, h4⟩; obtain rfl := h4.symm)
          | (go_at_call 26; refine C1.out.mono ?_; rintro e w5 ⟨rfl, hb5⟩))
        go_roundw
        case rel => exact ⟨j + 1, by omega, by go_num, by rw [Htk.out]; simp, HA.out.later hb5, HX.out.later hb5, bth HB.out hb5⟩
        case measure => simp [intOf]; omega
      · obtain rfl : j = N := by omega
        have x4 : wr.cell? ⟨w.heap.size, 4, none⟩ = some (sv text) := HX.out.cell 4
        clear hlt
        generalize ([a, b, c].take j).map Lib.itoa = A at *
        cases tb with
        | false =>
          have HE2 := hid (show lineL ⟨kind, a, b, c, text⟩ = W0 ++ tailL A ++ [10] by rw [HE.out]; simp)
          generalize W0 ++ tailL A = F at *
          have f1 : ¬ 9223372036854775807 < F.length + 1 := by omega
          clear hSl x4
          go_wp2_with (first
            | (go_at_call 25; refine (N1.out _).mono ?_; rintro e w4 ⟨rfl, h4⟩; obtain rfl := h4.symm)
            | (go_at_call 27; refine (T1.out _).mono ?_; rintro e w4 ⟨rfl, h4⟩; obtain rfl := h4.symm))
          go_ret
          exact ⟨by rw [HE2.out]; rfl, HB.out⟩
        | true =>
          have C1 := hid (rbytes_any text wr (by omega))
          have hHl := hexW_len text
          have HE2 := hid (show lineL ⟨kind, a, b, c, text⟩ = W0 ++ tailL A ++ [32] ++ hexW text ++ [10] by rw [HE.out]; simp only [if_true]; rw [tail_snoc]; simp)
          generalize W0 ++ tailL A = F at *
          generalize hexW text = Z at *
          have f1 : ¬ 9223372036854775807 < F.length + 1 := by omega
          have f2 : ¬ 9223372036854775807 < F.length + 1 + Z.length := by omega
          have f3 : ¬ 9223372036854775807 < F.length + 1 + Z.length + 1 := by omega
          clear hSl hHl
          go_wp2_with (first
            | (go_at_call 25; refine (N1.out _).mono ?_; rintro e w4 ⟨rfl, h4⟩; obtain rfl := h4.symm)
            | (go_at_call 27; refine (T1.out _).mono ?_; rintro e w4 ⟨rfl, h4⟩; obtain rfl := h4.symm)
            | (go_at_call 28; refine C1.out.mono ?_; rintro e w5 ⟨rfl, hb5⟩))
          go_ret
          exact ⟨by rw [HE2.out]; simp, bth HB.out hb5⟩
  · have HE := hid (show lineL ⟨kind, a, b, c, text⟩ = [] from if_neg hK)
    rw [if_neg hK] at W1
    clear hK
    go_enter Tryd.func15, Tryd.ntmps15
    go_upto_region 1 with fail
    refine wp_world (fun W => Blk W w.heap.size #[.int .i64 kind, .int .i64 a, .int .i64 b, .int .i64 c, sv text] 27 ∧ Below w.heap.size w W) ⟨Blk.new _ _ _, (Below.refl _ w).alloc (Nat.le_refl _) _⟩ ?_
    rintro y0 ⟨hX, hb0⟩
    have x0 : y0.cell? ⟨w.heap.size, 0, none⟩ = some (.int .i64 kind) := hX.cell 0
    have HB0 := hid hb0; clear hX hb0
    go_wp2_with (go_at_call 24; refine (W1.out _).mono ?_; rintro e w1 ⟨rfl, h1⟩; obtain rfl := h1.symm)
    go_ret
    exact ⟨by rw [HE.out]; rfl, HB0.out⟩
end Go.Proofs.YtdefipnmjfnpeaaDoor
