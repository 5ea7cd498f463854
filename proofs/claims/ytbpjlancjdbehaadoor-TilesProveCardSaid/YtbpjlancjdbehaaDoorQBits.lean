/- bits.Put, bits.Get, bits.Right. -/
import Derived.Test.YtbpjlancjdbehaaDoorQBase
import Derived.Test.YtbpjlancjdbehaaDoorQShaLaw
import Derived.Test.YtbpjlancjdbehaaDoorProg
set_option maxRecDepth 100000
namespace Go.Proofs.YtbpjlancjdbehaaDoor
open Go.RowKit Go.Spec
theorem rot_and (k j : Nat) (h : k + j = 32) (hk : 0 < k) : bits .and .u64 (IntKind.u64.wrap (-(k : Int))) 31 = (j : Int) := by
  rw [IntKind.wrap_u64, show (-(k : Int)) % 18446744073709551616 = ((18446744073709551616 - k : Nat) : Int) by omega]
  have := bits_mask .u64 64 (by decide) (fun n h1 h2 => by rw [IntKind.wrap_u64]; omega) 5 (by decide) ((18446744073709551616 - k : Nat) : Int) (by omega) (by omega)
  rw [show (31 : Int) = 2 ^ 5 - 1 by decide, this]
  omega
theorem rot_or (x k j : Nat) (h : k + j = 32) (hx : x < 4294967296) : bits .or .u32 ((x : Int) * 2 ^ j % 4294967296) ((x : Int) / 2 ^ k) = ((rotr x k : Nat) : Int) := by
  have e1 : ((x : Int) * 2 ^ j % 4294967296) = ((x * 2 ^ j % 4294967296 : Nat) : Int) := by
    rw [Int.natCast_emod, Int.natCast_mul, Int.natCast_pow]; rfl
  have e2 : ((x : Int) / 2 ^ k) = ((x / 2 ^ k : Nat) : Int) := by rw [Int.natCast_ediv, Int.natCast_pow]; rfl
  rw [e1, e2, u32_or_nat _ _ (Nat.mod_lt _ (by decide)) (Nat.lt_of_le_of_lt (Nat.div_le_self _ _) hx), Nat.or_comm]
  unfold rotr
  rw [show 32 - k = j by omega]
set_option maxHeartbeats 400000 in
theorem rotl_any (x k : Nat) (w : World) (hx : x < 4294967296) (hk : 0 < k) (hk2 : k < 32) :
    Calls Tryd.prog 110 #[.int .u32 x, .int .i64 (-(k : Int))] w fun e w' => e = .returned (.int .u32 (rotr x k)) ∧ w = w' := by
  obtain ⟨j, hj⟩ : ∃ j, k + j = 32 := ⟨32 - k, by omega⟩
  have h1 := rot_and k j hj hk
  have h2 := hid (rot_or x k j hj hx)
  have hj3 : min ((j : Int)).toNat 32 = j := by omega
  have hj4 : IntKind.u64.wrap (32 - (j : Int)) = (k : Int) := by rw [IntKind.wrap_u64]; omega
  have hj5 : (32 - (j : Int)) = (k : Int) := by omega
  have hj0 : 0 ≤ (j : Int) := by omega
  have hj6 : (j : Int) ≤ 32 := by omega
  have hk6 : (k : Int) ≤ 32 := by omega
  have Hj := hid hj; clear hj
  go_enter Tryd.func110, Tryd.ntmps110
  go_wp2
  go_ret
  exact ⟨by rw [← h2.out]; rfl, rfl⟩
set_option maxHeartbeats 400000 in
theorem right_any (x k : Nat) (w : World) (hx : x < 4294967296) (hk : 0 < k) (hk2 : k < 32) :
    Calls Tryd.prog 96 #[.int .u32 x, .int .i64 k] w fun e w' => e = .returned (.int .u32 (rotr x k)) ∧ w = w' := by
  have hm : (k : Int) % 32 = (k : Int) := by omega
  go_enter Tryd.func96, Tryd.ntmps96
  go_wp2_with (go_at_call 110; refine (rotl_any x k _ hx hk hk2).mono ?_; rintro e w' ⟨rfl, rfl⟩)
  go_ret
  exact ⟨rfl, rfl⟩
/-- the same for an Int, the world said the other way round: for regions that draw their order -/
theorem right_i (x : Nat) (k : Int) (w : World) (hx : x < 4294967296) (hk : 0 < k) (hk2 : k < 32) :
    Calls Tryd.prog 96 #[.int .u32 x, .int .i64 k] w fun e w' => e = .returned (.int .u32 (rotr x k.toNat)) ∧ w' = w := by
  obtain ⟨n, rfl⟩ := Int.eq_ofNat_of_zero_le (show 0 ≤ k by omega)
  exact (right_any x n w hx (by omega) (by omega)).mono fun e w' ⟨h1, h2⟩ => ⟨by rw [h1]; simp, h2.symm⟩
theorem bx3 (a b c : Nat) (ha : a < 4294967296) (hb : b < 4294967296) (hc : c < 4294967296) : bits .xor .u32 (bits .xor .u32 (a : Int) (b : Int)) (c : Int) = ((a ^^^ b ^^^ c : Nat) : Int) := by
  rw [u32_xor_nat _ _ ha hb, u32_xor_nat _ _ (xor_lt ha hb) hc]
def beN (l : List UInt8) : Nat := l.foldl (fun n c => n * 256 + c.toNat) 0
theorem beN_snoc (l : List UInt8) (c : UInt8) : beN (l ++ [c]) = beN l * 256 + c.toNat := by simp [beN]
theorem beN_lt (l : List UInt8) : ∀ k, beN (l.take k) < 256 ^ k
  | 0 => by simp [beN]
  | k + 1 => by
    have ih := beN_lt l k
    have hp : 256 ^ (k + 1) = 256 ^ k * 256 := Nat.pow_succ ..
    by_cases h : k < l.length
    · rw [List.take_succ_eq_append_getElem h, beN_snoc]
      have := l[k].toNat_lt
      omega
    · rw [List.take_of_length_le (by omega)] at ih ⊢
      omega
set_option maxHeartbeats 400000 in
theorem get_any (l : List UInt8) (w : World) (hl : l.length ≤ 8) :
    Calls Tryd.prog 109 #[sv l] w fun e w' => e = .returned (.int .u64 (beN l)) ∧ w = w' := by
  have hmn : min (l.length : Int) 8 = (l.length : Int) := by omega
  go_enter Tryd.func109, Tryd.ntmps109
  go_wp2
  go_loop [3, 8] (fun n i => ∃ k : Nat, k ≤ l.length ∧ i = .int .i64 k ∧ n = .int .u64 (beN (l.take k))) (fun _ i => l.length - (intOf i).toNat)
  case atStart => exact ⟨0, by omega, rfl, rfl⟩
  case round =>
    obtain ⟨k, hk, rfl, rfl⟩ := hrel
    by_cases hlt : k < l.length
    · have hb := beN_lt l k
      have hp : 256 ^ k ≤ 256 ^ 7 := Nat.pow_le_pow_right (by omega) (by omega)
      have hts := hid (show beN (l.take (k + 1)) = beN (l.take k) * 256 + l[k].toNat by rw [List.take_succ_eq_append_getElem hlt, beN_snoc])
      have hn : beN (l.take k) < 72057594037927936 := by have : (256 : Nat) ^ 7 = 72057594037927936 := by decide
                                                         omega
      clear hb hp
      generalize beN (l.take k) = n at *
      have hc := l[k].toNat_lt
      go_wp2
      go_round
      case rel => exact ⟨k + 1, by omega, by go_num, by rw [hts.out]; go_num⟩
      case measure => simp [intOf]; omega
    · go_wp2
      go_ret
      exact ⟨by rw [List.take_of_length_le (by omega)]; rfl, rfl⟩
theorem beL_low (n : Nat) : ∀ i, beL n (i + 1) = UInt8.ofNat (n / 256 ^ i % 256) :: beL n i
  | 0 => by simp [beL]
  | i + 1 => by
    rw [beL, beL_low (n / 256) i, List.cons_append]
    congr 1
    rw [Nat.div_div_eq_div_mul, Nat.pow_succ, Nat.mul_comm]
theorem put_step (n s k : Nat) (h : k < s) : (List.replicate (s - k) 0 ++ beL n k).set (s - 1 - k) (UInt8.ofNat (n / 256 ^ k % 256)) = List.replicate (s - (k + 1)) 0 ++ beL n (k + 1) := by
  rw [beL_low, show s - k = (s - (k + 1)) + 1 by omega, List.replicate_succ', List.append_assoc, List.set_append_right _ _ (by simp; omega)]
  simp [show s - 1 - k - (s - (k + 1)) = 0 by omega]
theorem Tryd.infoU8' : (Tryd.prog.info? 5).map (fun i => (i.zero, i.size, i.bytes)) = some (some (.int .u8 0), 1, 1) := by kernel_rfl
set_option maxHeartbeats 400000 in
theorem put_any (n s : Nat) (w : World) (hn : n < 18446744073709551616) (h1 : 1 ≤ s) (h8 : s ≤ 8) :
    Calls Tryd.prog 73 #[.int .u64 n, .int .i64 s] w fun e w' => e = .returned (sv (beL n s)) ∧ Below w.heap.size w w' := by
  obtain ⟨i0, hi, hz0, hz1, hz2⟩ := info_parts Tryd.infoU8'
  have hd1 : decide ((s : Int) < 1) = false := by simp; omega
  have hd2 : decide ((8 : Int) < (s : Int)) = false := by simp; omega
  have hmk := run_make_bytes (P := Tryd.prog) 108 5 i0 Tryd.underlying108 hi hz0 hz1 hz2 s (by omega)
  have Hn := hid hn; clear hn
  go_enter Tryd.func73, Tryd.ntmps73
  go_wp2
  go_loopw [0, 16] (fun x i wr => ∃ k : Nat, k ≤ s ∧ i = .int .i64 k ∧ x = .int .u64 (n / 256 ^ k : Nat) ∧ Blk wr w.heap.size (hc (List.replicate (s - k) 0 ++ beL n k)) 5 ∧ Below w.heap.size w wr) (fun _ i _ => s - (intOf i).toNat)
  case atStart => exact ⟨0, by omega, rfl, by simp, by simpa [beL] using Blk.new _ _ _, (Below.refl _ _).alloc (Nat.le_refl _) _⟩
  case round =>
    obtain ⟨k, hk, rfl, rfl, hB, hb⟩ := hrel
    by_cases hlt : k < s
    · obtain ⟨j, hj⟩ : ∃ j, s - 1 - k = j := ⟨_, rfl⟩
      have hj1 : (s : Int) - 1 - (k : Int) = (j : Int) := by omega
      have hc1 := hB.u8 j (by simp [beL_len]; omega)
      have hf1 := hB.free j
      have Hdiv := hid (show n / 256 ^ k / 256 = n / 256 ^ (k + 1) by rw [Nat.div_div_eq_div_mul, Nat.pow_succ])
      have HB2 := hid (put_step n s k hlt)
      have hjs : (j : Int) < s := by omega
      have Hj := hid hj; clear hj
      have Hm := hid (show Value.int IntKind.u8 (((n / 256 ^ k : Nat) : Int) % 256) = bcell (UInt8.ofNat (n / 256 ^ k % 256)) by rw [← bcell_mk _ (by omega)]; congr 1)
      have hN : n / 256 ^ k < 18446744073709551616 := Nat.lt_of_le_of_lt (Nat.div_le_self _ _) Hn.out
      generalize (UInt8.ofNat (n / 256 ^ k % 256)) = c at *
      generalize hx : n / 256 ^ k = x at *
      have HX := hid hx; clear hx
      clear HX
      go_wp2
      go_roundw
      case rel =>
        refine ⟨k + 1, by omega, by go_num, ?_, ?_, ?_⟩
        · rw [← Hdiv.out]; go_num
        · have := hB.u8set j c
          have h2 := HB2.out
          rw [Hj.out] at h2
          rw [h2] at this
          rw [Hm.out]
          exact this
        · exact hb.setCell (by simp) _
      case measure => simp [intOf]; omega
    · obtain rfl : k = s := by omega
      have hcv := run_convert_bytes_back (P := Tryd.prog) (w := wr) 108 9 5 ⟨w.heap.size, 0, none⟩ k (beL n k) Tryd.underlying108 Tryd.underlying5 Tryd.underlying9
        (fun j hj => by rw [cell_at_row hB]; simp [hc, hj]; rfl)
      rw [beL_len] at hcv
      go_wp2
      go_ret
      exact ⟨rfl, hb⟩
theorem put_int (x : Int) (s : Nat) (w : World) (h0 : 0 ≤ x) (hn : x < 18446744073709551616) (h1 : 1 ≤ s) (h8 : s ≤ 8) :
    Calls Tryd.prog 73 #[.int .u64 x, .int .i64 s] w fun e w' => e = .returned (sv (beL x.toNat s)) ∧ Below w.heap.size w w' := by
  obtain ⟨n, rfl⟩ := Int.eq_ofNat_of_zero_le h0
  exact put_any n s w (by omega) h1 h8
end Go.Proofs.YtbpjlancjdbehaaDoor
