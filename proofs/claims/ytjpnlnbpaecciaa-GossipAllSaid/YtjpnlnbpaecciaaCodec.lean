import Derived.Test.YtjpnlnbpaecciaaProg
import Derived.Test.YtjpnlnbpaecciaaCodecLaw
set_option maxRecDepth 100000
namespace Go.Proofs.Ytjpnlnbpaecciaa
open Go.RowKit Go.Spec
theorem Try.infoU8 : (Try.prog.info? 5).map (fun i => (i.zero, i.size, i.bytes)) = some (some (.int .u8 0), 1, 1) := by kernel_rfl
theorem or128 (m : Nat) : bits BinOp.or IntKind.u8 ((m : Int) % 128) 128 = ((m % 128 + 128 : Nat) : Int) := by
  have h : ∀ k : Fin 128, bits BinOp.or IntKind.u8 ((k.val : Nat) : Int) 128 = ((k.val + 128 : Nat) : Int) := by decide +kernel
  exact h ⟨m % 128, by omega⟩
set_option maxHeartbeats 400000 in
theorem num_any (n : Nat) (w : World) (hn : n < 18446744073709551616) :
    Calls Try.prog 44 #[.int .u64 n] w fun e w' => e = .returned (sv (numL n)) ∧ Below w.heap.size w w' := by
  obtain ⟨i0, hi, hz0, hz1, hz2⟩ := info_parts Try.infoU8
  have hlen := numL_len n hn
  have Hn := hid hn; have Hlen := hid hlen
  clear hlen
  go_enter Try.func44, Try.ntmps44
  go_wp2
  go_loopw [0, 3] (fun x b wr => ∃ (m : Nat) (l : List UInt8), x = .int .u64 m ∧ m < 18446744073709551616 ∧ wr.ownsRow w.heap.size 5 1 b l.length (l.map bcell) ∧ hiN m ++ l = numL n ∧ 0 < l.length ∧ Below w.heap.size w wr)
    (fun x _ _ => (intOf x).toNat)
  case atStart =>
    refine ⟨n / 128, [lob n], by simp, by omega, ?_, rfl, by simp, (Below.refl _ _).alloc (Nat.le_refl _) _⟩
    have := ownsRow_lit (w := w) (base := w.heap.size) (e := 5) (bcell (lob n)) (Nat.le_refl _)
    simpa [lob_cell] using this
  case round =>
    obtain ⟨m, l, rfl, hm, hown, he, hl, hb⟩ := hrel
    have hl2 : l.length ≤ 10 := by have hlen := Hlen.out; rw [← he] at hlen; simp at hlen; omega
    have He := hid he; clear he
    by_cases h0 : m = 0
    · subst h0
      have hcv := run_string_own (P := Try.prog) (w := wr) 79 9 5 Try.underlying79 Try.underlying5 Try.underlying9 hown
      go_wp2
      go_ret
      exact ⟨by rw [← He.out]; simp [hiN_zero], hb⟩
    · have h1 : 0 < m := by omega
      obtain ⟨g, cap, rfl, hg1, hg2, hg3, hg4⟩ := ownsRow_some hown hl
      clear h0
      have hor := or128 m
      go_wp2_with (at_builtin; refine wpList_append_own _ rfl _ _ 79 rfl w.heap.size 5 i0 (.int .u8 0) 1 1 Try.underlying79 hi hz0 hz1 hz2 rfl (by decide) (.slice (some ⟨wr.heap.size, 0, none⟩) 1 1) 1 [.int .u8 ((m : Int) % 128 + 128)] rfl ?c0 ⟨g, 0, none⟩ l.length cap (l.map bcell) rfl ?c1 ?c2 ?c3 ?c4 ?c5 ?c6 ?_)
      case c0 =>
        exact ownsRow_lit (w := wr) (base := w.heap.size) (e := 5) _ hb.size
      case c1 => simp
      case c2 => exact cell_row_alloc hg2 hg4
      case c3 => exact bcell_one l
      case c4 => unfold maxLen; omega
      case c5 => omega
      case c6 => have := hb.size; simp; omega
      intro v' w1 hown' hgrow _
      go_wp2
      go_roundw
      case rel =>
        refine ⟨m / 128, hib m :: l, by simp, by omega, ?_, ?_, by simp, ?_⟩
        · simp only [List.map_cons, List.length_cons, hib_cell]
          rw [Nat.add_comm]
          simpa using hown'
        · rw [← He.out, hiN_pos m h1]; simp
        · exact (hb.alloc hb.size _).grown hgrow (by have := hb.size; simp; omega) (by intro k hk; simp [Value.ownBlock] at hk; have := hb.size; omega)
      case measure => simp [intOf]; omega
theorem and127 (c : UInt8) : bits .and .u8 (c.toNat : Int) 127 = (c.toNat : Int) % 128 := by
  have := bits_mask .u8 8 (by decide) wraps_u8 7 (by decide) (c.toNat : Int) (by omega) (by have := c.toNat_lt; omega)
  simpa using this
theorem or_low (m c : Nat) (hm : m < 144115188075855872) : bits .or .u64 (IntKind.u64.wrap ((m : Int) * 128)) ((c : Int) % 128) = (m : Int) * 128 + (c : Int) % 128 := by
  rw [IntKind.wrap_u64, show ((m : Int) * 128) % 18446744073709551616 = ((m * 128 : Nat) : Int) by omega, show ((c : Int) % 128) = ((c % 128 : Nat) : Int) by omega, u64_or_nat _ _ (by omega) (by omega)]
  have h := Nat.two_pow_add_eq_or_of_lt (i := 7) (b := c % 128) (by omega) m
  rw [Nat.mul_comm m 128, ← h]; omega
theorem or_low0 (c : Nat) : bits .or .u64 0 ((c : Int) % 128) = (c : Int) % 128 := by
  have := or_low 0 c (by omega)
  rw [IntKind.wrap_u64] at this
  simpa using this
def rdV : Option (Nat × List UInt8) → Value
  | some (n, r) => .tuple #[.int .u64 n, sv r, .bool true]
  | none => .tuple #[.int .u64 0, sv [], .bool false]
set_option maxRecDepth 100000 in
set_option maxHeartbeats 400000 in
theorem read_any (l : List UInt8) (w : World) (hn : l.length ≤ 9223372036854775807) :
    Calls Try.prog 76 #[sv l] w fun e w' => e = .returned (rdV (rd 0 l)) ∧ Below w.heap.size w w' := by
  go_enter Try.func76, Try.ntmps76
  go_wp2
  go_loop [2, 9] (fun x i => ∃ (m k : Nat), x = .int .u64 m ∧ i = .int .i64 k ∧ m < 18446744073709551616 ∧ k ≤ l.length ∧ rd m (l.drop k) = rd 0 l)
    (fun _ i => l.length - (intOf i).toNat)
  case atStart => exact ⟨0, 0, rfl, rfl, by omega, by omega, rfl⟩
  case round =>
    obtain ⟨m, k, rfl, rfl, hm, hk, he⟩ := hrel
    have He := hid he; clear he
    by_cases hlt : k < l.length
    · go_upto_region 5 with (fail)
      obtain ⟨c, hc⟩ : ∃ c : UInt8, l[k] = c := ⟨_, rfl⟩
      have hc256 : c.toNat < 256 := c.toNat_lt
      have hdr : List.drop k l = c :: List.drop (k + 1) l := by rw [← hc]; exact List.drop_eq_getElem_cons hlt
      simp only [hc]
      rw [hdr] at He
      have Hc := hid hc; clear hc hdr
      by_cases hstop : m = 0 ∧ c.toNat = 128 ∨ 144115188075855872 ≤ m
      · have Hfin := hid (show rd 0 l = none by rw [← He.out, rd, if_pos hstop])
        clear He
        by_cases h57 : 144115188075855872 ≤ m
        · have h57b : decide (144115188075855872 ≤ (m : Int)) = true := by simp; omega
          have hm0 : ((m : Int) == 0) = false := by simp; omega
          clear hstop hm h57
          go_wp2
          go_ret3
          exact ⟨by rw [Hfin.out]; rfl, Below.refl _ _⟩
        · have h57b : decide (144115188075855872 ≤ (m : Int)) = false := by simp; omega
          have hm0 : m = 0 := by omega
          have hc0 : c.toNat = 128 := by omega
          clear hstop hm h57
          subst hm0
          go_wp2
          go_ret3
          exact ⟨by rw [Hfin.out]; rfl, Below.refl _ _⟩
      · have h57b : decide (144115188075855872 ≤ (m : Int)) = false := by simp; omega
        have h57 : m < 144115188075855872 := by omega
        have hns : ¬ (m = 0 ∧ c.toNat = 128) := fun h => hstop (.inl h)
        have hand := and127 c
        have hor := or_low m c.toNat h57
        have hor0 := or_low0 c.toNat
        by_cases hc1 : c.toNat < 128
        · have Hfin := hid (show rd 0 l = some (m * 128 + c.toNat % 128, l.drop (k + 1)) by rw [← He.out, rd, if_neg hstop, if_pos hc1])
          have hq2 : ((c.toNat : Int) == 128) = false := by simp; omega
          clear hns hstop He
          have H57 := hid h57; clear h57 hm
          rcases Nat.eq_zero_or_pos m with rfl | hm0'
          · go_upto_region 8 with (fail)
            go_quiet (fail)
            go_wp2
            go_ret3
            exact ⟨by rw [Hfin.out]; simp [rdV], below_drewN (Below.refl _ _) _⟩
          · have hm0 : ((m : Int) == 0) = false := by simp; omega
            go_upto_region 8 with (fail)
            go_quiet (fail)
            go_wp2
            go_ret3
            exact ⟨by rw [Hfin.out]; simp [rdV], below_drewN (Below.refl _ _) _⟩
        · have He2 := hid (show rd (m * 128 + c.toNat % 128) (l.drop (k + 1)) = rd 0 l by rw [← He.out]; conv => rhs; rw [rd, if_neg hstop, if_neg hc1])
          have H57 := hid h57; clear h57 hm
          clear hstop He
          rcases Nat.eq_zero_or_pos m with rfl | hm0'
          · have hq2 : ((c.toNat : Int) == 128) = false := by simp; omega
            clear hns
            go_wp2
            go_round
            case rel => exact ⟨c.toNat % 128, k + 1, by simp, by go_num, by omega, by omega, by have := He2.out; simpa using this⟩
            case measure => simp [intOf]; omega
          · have hm0 : ((m : Int) == 0) = false := by simp; omega
            clear hns
            go_wp2
            go_round
            case rel => exact ⟨m * 128 + c.toNat % 128, k + 1, by simp, by go_num, by have := H57.out; omega, by omega, He2.out⟩
            case measure => simp [intOf]; omega
    · have Hfin := hid (show rd 0 l = none by rw [← He.out, List.drop_eq_nil_of_le (by omega)]; rfl)
      clear hm He
      go_wp2
      go_ret3
      exact ⟨by rw [Hfin.out]; rfl, Below.refl _ _⟩

set_option maxHeartbeats 400000 in
theorem text_any (l : List UInt8) (w : World) (hn : l.length ≤ 1000000000) :
    Calls Try.prog 46 #[sv l] w fun e w' => e = .returned (sv (numL l.length ++ l)) ∧ Below w.heap.size w w' := by
  have hlen := numL_len l.length (by omega)
  go_enter Try.func46, Try.ntmps46
  go_wp2_with (go_at_call 44; refine (num_any _ _ (by omega)).mono ?_; rintro e w1 ⟨rfl, hb⟩)
  go_ret
  exact ⟨rfl, hb⟩
def takeV (l : List UInt8) (n : Nat) : Value := if l.length < n then .tuple #[sv [], sv [], .bool false] else .tuple #[sv (l.take n), sv (l.drop n), .bool true]
set_option maxHeartbeats 400000 in
theorem take_any (l : List UInt8) (n : Nat) (w : World) (hn : l.length ≤ 9223372036854775807) :
    Calls Try.prog 91 #[sv l, .int .u64 n] w fun e w' => e = .returned (takeV l n) ∧ Below w.heap.size w w' := by
  by_cases h : l.length < n
  · have hd : decide (l.length < n) = true := by simpa using h
    have Hh := hid h; clear h
    go_enter Try.func91, Try.ntmps91
    go_wp2
    go_ret3
    exact ⟨by rw [takeV, if_pos Hh.out]; rfl, Below.refl _ _⟩
  · have hd : decide (l.length < n) = false := by simpa using h
    have h : n ≤ l.length := by omega
    go_enter Try.func91, Try.ntmps91
    go_upto_region 3 with (fail)
    go_quiet (fail)
    go_wp2
    go_ret3
    exact ⟨by rw [takeV, if_neg (by omega)]; simp, below_drewN (Below.refl _ _) _⟩
end Go.Proofs.Ytjpnlnbpaecciaa
