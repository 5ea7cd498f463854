/- speculumref01.Put, Get -/
import Derived.Test.YtchpoggegdocpaaDoorBits
import Derived.Test.YtchpoggegdocpaaDoorShaLaid
set_option maxRecDepth 100000
namespace Go.Proofs.YtchpoggegdocpaaDoor
open Go.RowKit Go.Spec
theorem run_string_byte {w : World} (x : Int) (b : UInt8) (hx : Value.int .u8 x = bcell b) : (convert 35 9 (.slice (some ⟨w.heap.size, 0, none⟩) 1 1)).run Tryd.prog (w.alloc (.cells #[.int .u8 x] 5)) = .ok (sv [b]) (w.alloc (.cells #[.int .u8 x] 5)) := by
  rw [hx]
  exact run_string_own (P := Tryd.prog) (base := w.heap.size) (n := 1) (l := [b]) 35 9 5 Tryd.underlying35 Tryd.underlying5 Tryd.underlying9 (ownsRow_lit (w := w) (base := w.heap.size) (e := 5) (bcell b) (Nat.le_refl _))
set_option maxHeartbeats 1000000 in
theorem rput_any (n s : Nat) (w : World) (hn : n < 18446744073709551616) (h8 : s ≤ 8) :
    Calls Tryd.prog 31 #[.int .u64 n, .int .i64 s] w fun e w' => e = .returned (sv (beL n s)) ∧ Below w.heap.size w w' := by
  have Hn := hid hn; clear hn
  have hd9 : decide ((s : Int) < 9) = true := by simp; omega
  go_enter Tryd.func31, Tryd.ntmps31
  go_wp2
  go_loopw [0, 5, 6] (fun x t i wr => ∃ k : Nat, k ≤ s ∧ i = .int .i64 k ∧ x = .int .u64 (n / 256 ^ k : Nat) ∧ t = sv (beL n k) ∧ Below w.heap.size w wr) (fun _ _ i _ => s - (intOf i).toNat)
  case atStart => exact ⟨0, by omega, rfl, by simp, rfl, Below.refl _ _⟩
  case round =>
    obtain ⟨k, hk, rfl, rfl, rfl, hb⟩ := hrel
    by_cases hlt : k < s
    · have hd : decide ((k : Int) < (s : Int)) = true := by simp; omega
      have Hdiv := hid (show n / 256 ^ k / 256 = n / 256 ^ (k + 1) by rw [Nat.div_div_eq_div_mul, Nat.pow_succ])
      have Hm := hid (show Value.int IntKind.u8 (((n / 256 ^ k : Nat) : Int) % 256) = bcell (UInt8.ofNat (n / 256 ^ k % 256)) by rw [← bcell_mk _ (by omega)]; congr 1)
      have hN : n / 256 ^ k < 18446744073709551616 := Nat.lt_of_le_of_lt (Nat.div_le_self _ _) Hn.out
      have Hl := hid (beL_low n k)
      have hll : (beL n k).length ≤ 8 := by rw [beL_len]; omega
      generalize (UInt8.ofNat (n / 256 ^ k % 256)) = c at *
      generalize beL n k = L at *
      generalize hx : n / 256 ^ k = x at *
      clear hx
      have hcv := run_string_byte (w := wr) ((x : Int) % 256) c Hm.out
      go_wp2
      go_roundw
      case rel => exact ⟨k + 1, by omega, by go_num, by rw [← Hdiv.out]; go_num, by rw [Hl.out], hb.alloc hb.size _⟩
      case measure => simp [intOf]; omega
    · obtain rfl : k = s := by omega
      have hd : decide ((k : Int) < (k : Int)) = false := by simp
      go_wp2
      go_ret
      exact ⟨rfl, hb⟩
set_option maxHeartbeats 400000 in
theorem rget_any (l : List UInt8) (w : World) (hl : l.length ≤ 8) :
    Calls Tryd.prog 51 #[sv l] w fun e w' => e = .returned (.int .u64 (beN l)) ∧ w = w' := by
  go_enter Tryd.func51, Tryd.ntmps51
  go_wp2
  go_loop [3, 4] (fun n i => ∃ k : Nat, k ≤ l.length ∧ i = .int .i64 k ∧ n = .int .u64 (beN (l.take k))) (fun _ i => l.length - (intOf i).toNat)
  case atStart => exact ⟨0, by omega, rfl, rfl⟩
  case round =>
    obtain ⟨k, hk, rfl, rfl⟩ := hrel
    by_cases hlt : k < l.length
    · have hb := beN_lt l k
      have hp : 256 ^ k ≤ 256 ^ 7 := Nat.pow_le_pow_right (by omega) (by omega)
      have hts := hid (show beN (l.take (k + 1)) = beN (l.take k) * 256 + l[k].toNat by rw [List.take_succ_eq_append_getElem hlt, beN_snoc])
      have hn : beN (l.take k) < 72057594037927936 := by have : (256 : Nat) ^ 7 = 72057594037927936 := by decide
                                                         omega
      clear hb hp
      generalize beN (l.take k) = n at *
      have hc := l[k].toNat_lt
      have hd8 : decide ((k : Int) < 8) = true := by simp; omega
      have hd : decide (k < l.length) = true := by simpa using hlt
      go_wp2
      go_round
      case rel => exact ⟨k + 1, by omega, by go_num, by rw [hts.out]; go_num⟩
      case measure => simp [intOf]; omega
    · obtain rfl : k = l.length := by omega
      go_wp2
      go_ret
      exact ⟨rfl, rfl⟩
end Go.Proofs.YtchpoggegdocpaaDoor
