/- SHA-256 as plain functions on lists of bytes and on numbers. -/
import Derived.Test.YtbpjlancjdbehaaDoorQBase
import Derived.Laws.BitsAllLaws
import Derived.Test.YtbpjlancjdbehaaDoorProg
import Derived.Test.YtbpjlancjdbehaaDoorShelf
set_option maxRecDepth 100000
namespace Go.Spec
def rotr (x k : Nat) : Nat := (x / 2 ^ k) ||| (x * 2 ^ (32 - k) % 4294967296)
def sg0 (x : Nat) : Nat := rotr x 7 ^^^ rotr x 18 ^^^ x / 8
def sg1 (x : Nat) : Nat := rotr x 17 ^^^ rotr x 19 ^^^ x / 1024
def su0 (x : Nat) : Nat := rotr x 2 ^^^ rotr x 13 ^^^ rotr x 22
def su1 (x : Nat) : Nat := rotr x 6 ^^^ rotr x 11 ^^^ rotr x 25
def chF (e f g : Nat) : Nat := (e &&& f) ^^^ ((4294967295 ^^^ e) &&& g)
def maj (a b c : Nat) : Nat := (a &&& b) ^^^ (a &&& c) ^^^ (b &&& c)
structure V8 where
  a : Nat
  b : Nat
  c : Nat
  d : Nat
  e : Nat
  f : Nat
  g : Nat
  h : Nat
structure V8.ok (v : V8) : Prop where
  a : v.a < 4294967296
  b : v.b < 4294967296
  c : v.c < 4294967296
  d : v.d < 4294967296
  e : v.e < 4294967296
  f : v.f < 4294967296
  g : v.g < 4294967296
  h : v.h < 4294967296
def V8.l (v : V8) : List Nat := [v.a, v.b, v.c, v.d, v.e, v.f, v.g, v.h]
theorem V8.len (v : V8) : v.l.length = 8 := rfl
def tF (v : V8) (k w : Nat) : Nat := (v.h + su1 v.e + chF v.e v.f v.g + k + w) % 4294967296
def uF (v : V8) : Nat := (su0 v.a + maj v.a v.b v.c) % 4294967296
def rnd (v : V8) (k w : Nat) : V8 := ⟨(tF v k w + uF v) % 4294967296, v.a, v.b, v.c, (v.d + tF v k w) % 4294967296, v.e, v.f, v.g⟩
def addV (v w : V8) : V8 := ⟨(v.a + w.a) % 4294967296, (v.b + w.b) % 4294967296, (v.c + w.c) % 4294967296, (v.d + w.d) % 4294967296, (v.e + w.e) % 4294967296, (v.f + w.f) % 4294967296, (v.g + w.g) % 4294967296, (v.h + w.h) % 4294967296⟩
/-- a block's first numbers -/
def word (b : List UInt8) (i : Nat) : Nat := (((b.getD (4 * i) 0).toNat * 256 + (b.getD (4 * i + 1) 0).toNat) * 256 + (b.getD (4 * i + 2) 0).toNat) * 256 + (b.getD (4 * i + 3) 0).toNat
def wnew (ws : List Nat) (i : Nat) : Nat := (ws.getD (i - 16) 0 + ws.getD (i - 7) 0 + sg0 (ws.getD (i - 15) 0) + sg1 (ws.getD (i - 2) 0)) % 4294967296
/-- the first n numbers of a block -/
def wsch (b : List UInt8) : Nat → List Nat
  | 0 => []
  | n + 1 => wsch b n ++ [if n < 16 then word b n else wnew (wsch b n) n]
def rK : List Nat := [
  0x428a2f98, 0x71374491, 0xb5c0fbcf, 0xe9b5dba5, 0x3956c25b, 0x59f111f1, 0x923f82a4, 0xab1c5ed5,
  0xd807aa98, 0x12835b01, 0x243185be, 0x550c7dc3, 0x72be5d74, 0x80deb1fe, 0x9bdc06a7, 0xc19bf174,
  0xe49b69c1, 0xefbe4786, 0x0fc19dc6, 0x240ca1cc, 0x2de92c6f, 0x4a7484aa, 0x5cb0a9dc, 0x76f988da,
  0x983e5152, 0xa831c66d, 0xb00327c8, 0xbf597fc7, 0xc6e00bf3, 0xd5a79147, 0x06ca6351, 0x14292967,
  0x27b70a85, 0x2e1b2138, 0x4d2c6dfc, 0x53380d13, 0x650a7354, 0x766a0abb, 0x81c2c92e, 0x92722c85,
  0xa2bfe8a1, 0xa81a664b, 0xc24b8b70, 0xc76c51a3, 0xd192e819, 0xd6990624, 0xf40e3585, 0x106aa070,
  0x19a4c116, 0x1e376c08, 0x2748774c, 0x34b0bcb5, 0x391c0cb3, 0x4ed8aa4a, 0x5b9cca4f, 0x682e6ff3,
  0x748f82ee, 0x78a5636f, 0x84c87814, 0x8cc70208, 0x90befffa, 0xa4506ceb, 0xbef9a3f7, 0xc67178f2]
def v0 : V8 := ⟨0x6a09e667, 0xbb67ae85, 0x3c6ef372, 0xa54ff53a, 0x510e527f, 0x9b05688c, 0x1f83d9ab, 0x5be0cd19⟩
def rnds (v : V8) (ws : List Nat) : Nat → V8
  | 0 => v
  | n + 1 => rnd (rnds v ws n) (rK.getD n 0) (ws.getD n 0)
def mixF (v : V8) (b : List UInt8) : V8 := addV (rnds v (wsch b 64) 64) v
/-- the first n blocks -/
def blks (l : List UInt8) : Nat → V8
  | 0 => v0
  | n + 1 => mixF (blks l n) ((l.drop (64 * n)).take 64)
/-- a number's bytes, the highest first -/
def beL (n : Nat) : Nat → List UInt8
  | 0 => []
  | k + 1 => beL (n / 256) k ++ [UInt8.ofNat (n % 256)]
def padL (l : List UInt8) : List UInt8 := l ++ [128] ++ List.replicate ((119 - l.length % 64) % 64) 0 ++ beL (l.length * 8) 8
def outL (v : V8) : List UInt8 := v.l.flatMap (beL · 4)
def sumL (l : List UInt8) : List UInt8 := outL (blks (padL l) ((padL l).length / 64))
theorem sum_abc : sumL [97, 98, 99] = [0xba, 0x78, 0x16, 0xbf, 0x8f, 0x01, 0xcf, 0xea, 0x41, 0x41, 0x40, 0xde, 0x5d, 0xae, 0x22, 0x23, 0xb0, 0x03, 0x61, 0xa3, 0x96, 0x17, 0x7a, 0x9c, 0xb4, 0x10, 0xff, 0x61, 0xf2, 0x00, 0x15, 0xad] := by decide +kernel
theorem sum_nil : sumL [] = [0xe3, 0xb0, 0xc4, 0x42, 0x98, 0xfc, 0x1c, 0x14, 0x9a, 0xfb, 0xf4, 0xc8, 0x99, 0x6f, 0xb9, 0x24, 0x27, 0xae, 0x41, 0xe4, 0x64, 0x9b, 0x93, 0x4c, 0xa4, 0x95, 0x99, 0x1b, 0x78, 0x52, 0xb8, 0x55] := by decide +kernel
/- Sizes. -/
theorem rotr_lt (x k : Nat) (hx : x < 4294967296) : rotr x k < 4294967296 := by
  unfold rotr
  exact Nat.or_lt_two_pow (n := 32) (Nat.lt_of_le_of_lt (Nat.div_le_self _ _) hx) (Nat.mod_lt _ (by decide))
theorem xor_lt {x y : Nat} (hx : x < 4294967296) (hy : y < 4294967296) : x ^^^ y < 4294967296 := Nat.xor_lt_two_pow (n := 32) hx hy
theorem and_lt {x y : Nat} (hx : x < 4294967296) : x &&& y < 4294967296 := Nat.lt_of_le_of_lt Nat.and_le_left hx
theorem sg0_lt (x : Nat) (hx : x < 4294967296) : sg0 x < 4294967296 := xor_lt (xor_lt (rotr_lt _ _ hx) (rotr_lt _ _ hx)) (by omega)
theorem sg1_lt (x : Nat) (hx : x < 4294967296) : sg1 x < 4294967296 := xor_lt (xor_lt (rotr_lt _ _ hx) (rotr_lt _ _ hx)) (by omega)
theorem su0_lt (x : Nat) (hx : x < 4294967296) : su0 x < 4294967296 := xor_lt (xor_lt (rotr_lt _ _ hx) (rotr_lt _ _ hx)) (rotr_lt _ _ hx)
theorem su1_lt (x : Nat) (hx : x < 4294967296) : su1 x < 4294967296 := xor_lt (xor_lt (rotr_lt _ _ hx) (rotr_lt _ _ hx)) (rotr_lt _ _ hx)
theorem chF_lt (e f g : Nat) (he : e < 4294967296) : chF e f g < 4294967296 := xor_lt (and_lt he) (and_lt (xor_lt (by omega) he))
theorem maj_lt (a b c : Nat) (ha : a < 4294967296) (hb : b < 4294967296) : maj a b c < 4294967296 := xor_lt (xor_lt (and_lt ha) (and_lt ha)) (and_lt hb)
theorem tF_lt (v : V8) (k w : Nat) : tF v k w < 4294967296 := Nat.mod_lt _ (by decide)
theorem uF_lt (v : V8) : uF v < 4294967296 := Nat.mod_lt _ (by decide)
theorem rnd_ok {v : V8} (h : v.ok) (k w : Nat) : (rnd v k w).ok := ⟨Nat.mod_lt _ (by decide), h.a, h.b, h.c, Nat.mod_lt _ (by decide), h.e, h.f, h.g⟩
theorem addV_ok (v w : V8) : (addV v w).ok := by constructor <;> exact Nat.mod_lt _ (by decide)
theorem v0_ok : v0.ok := by constructor <;> decide
theorem rnds_ok {v : V8} (h : v.ok) (ws : List Nat) : ∀ n, (rnds v ws n).ok
  | 0 => h
  | n + 1 => rnd_ok (rnds_ok h ws n) _ _
theorem mixF_ok (v : V8) (b : List UInt8) : (mixF v b).ok := addV_ok _ _
theorem blks_ok (l : List UInt8) : ∀ n, (blks l n).ok
  | 0 => v0_ok
  | _ + 1 => mixF_ok _ _
theorem word_lt (b : List UInt8) (i : Nat) : word b i < 4294967296 := by
  unfold word
  have h0 := (b.getD (4 * i) 0).toNat_lt
  have h1 := (b.getD (4 * i + 1) 0).toNat_lt
  have h2 := (b.getD (4 * i + 2) 0).toNat_lt
  have h3 := (b.getD (4 * i + 3) 0).toNat_lt
  omega
theorem wsch_len (b : List UInt8) : ∀ n, (wsch b n).length = n
  | 0 => rfl
  | n + 1 => by simp [wsch, wsch_len b n]
theorem wsch_lt (b : List UInt8) : ∀ n, ∀ x ∈ wsch b n, x < 4294967296
  | 0, x, hx => by simp [wsch] at hx
  | n + 1, x, hx => by
    simp only [wsch, List.mem_append, List.mem_singleton] at hx
    rcases hx with hx | rfl
    · exact wsch_lt b n x hx
    · split
      · exact word_lt _ _
      · exact Nat.mod_lt _ (by decide)
theorem wsch_pre (b : List UInt8) : ∀ (n m : Nat), n ≤ m → (wsch b m).take n = wsch b n
  | n, 0, h => by have : n = 0 := by omega
                  subst this; rfl
  | n, m + 1, h => by
    by_cases hm : n = m + 1
    · subst hm; rw [List.take_of_length_le (by rw [wsch_len]; omega)]
    · rw [wsch, List.take_append_of_le_length (by rw [wsch_len]; omega)]
      exact wsch_pre b n m (by omega)
theorem wsch_get (b : List UInt8) (n m i : Nat) (h : i < n) (hm : n ≤ m) : (wsch b n).getD i 0 = (wsch b m).getD i 0 := by
  rw [← wsch_pre b n m hm, List.getD_eq_getElem?_getD, List.getD_eq_getElem?_getD, List.getElem?_take_of_lt h]
@[go_sem] theorem beL_len (n : Nat) : ∀ k, (beL n k).length = k
  | 0 => rfl
  | k + 1 => by simp [beL, beL_len _ k]
@[go_sem] theorem outL_len (v : V8) : (outL v).length = 32 := by simp [outL, V8.l, beL_len]
@[go_sem] theorem sumL_len (l : List UInt8) : (sumL l).length = 32 := outL_len _
theorem padL_len (l : List UInt8) : (padL l).length % 64 = 0 := by
  simp only [padL, List.length_append, List.length_replicate, beL_len, List.length_cons, List.length_nil]
  omega
theorem padL_le (l : List UInt8) : (padL l).length ≤ l.length + 72 := by
  simp only [padL, List.length_append, List.length_replicate, beL_len, List.length_cons, List.length_nil]
  omega
end Go.Spec
/- bits.Put, bits.Get, bits.Right. -/
namespace Go.Proofs.YtbpjlancjdbehaaDoor
open Go.RowKit Go.Spec
theorem rot_and (k j : Nat) (h : k + j = 32) (hk : 0 < k) : bits .and .u64 (IntKind.u64.wrap (-(k : Int))) 31 = (j : Int) := by
  rw [IntKind.wrap_u64, show (-(k : Int)) % 18446744073709551616 = ((18446744073709551616 - k : Nat) : Int) by omega]
  have := bits_mask .u64 64 (by decide) (fun n h1 h2 => by rw [IntKind.wrap_u64]; omega) 5 (by decide) ((18446744073709551616 - k : Nat) : Int) (by omega) (by omega)
  rw [show (31 : Int) = 2 ^ 5 - 1 by decide, this]
  omega
theorem rot_or (x k j : Nat) (h : k + j = 32) (hx : x < 4294967296) : bits .or .u32 ((x : Int) * 2 ^ j % 4294967296) ((x : Int) / 2 ^ k) = ((rotr x k : Nat) : Int) := by
  have e1 : ((x : Int) * 2 ^ j % 4294967296) = ((x * 2 ^ j % 4294967296 : Nat) : Int) := by
    rw [Int.natCast_emod, Int.natCast_mul, Int.natCast_pow]; rfl
  have e2 : ((x : Int) / 2 ^ k) = ((x / 2 ^ k : Nat) : Int) := by rw [Int.natCast_ediv, Int.natCast_pow]; rfl
  rw [e1, e2, u32_or_nat _ _ (Nat.mod_lt _ (by decide)) (Nat.lt_of_le_of_lt (Nat.div_le_self _ _) hx), Nat.or_comm]
  unfold rotr
  rw [show 32 - k = j by omega]
set_option maxHeartbeats 400000 in
theorem rotl_any (x k : Nat) (w : World) (hx : x < 4294967296) (hk : 0 < k) (hk2 : k < 32) :
    Calls Tryd.prog 110 #[.int .u32 x, .int .i64 (-(k : Int))] w fun e w' => e = .returned (.int .u32 (rotr x k)) ∧ w = w' := by
  obtain ⟨j, hj⟩ : ∃ j, k + j = 32 := ⟨32 - k, by omega⟩
  have h1 := rot_and k j hj hk
  have h2 := hid (rot_or x k j hj hx)
  have hj3 : min ((j : Int)).toNat 32 = j := by omega
  have hj4 : IntKind.u64.wrap (32 - (j : Int)) = (k : Int) := by rw [IntKind.wrap_u64]; omega
  have hj5 : (32 - (j : Int)) = (k : Int) := by omega
  have hj0 : 0 ≤ (j : Int) := by omega
  have hj6 : (j : Int) ≤ 32 := by omega
  have hk6 : (k : Int) ≤ 32 := by omega
  have Hj := hid hj; clear hj
  go_enter Tryd.func110, Tryd.ntmps110
  go_wp2
  go_ret
  exact ⟨by rw [← h2.out]; rfl, rfl⟩
set_option maxHeartbeats 400000 in
theorem right_any (x k : Nat) (w : World) (hx : x < 4294967296) (hk : 0 < k) (hk2 : k < 32) :
    Calls Tryd.prog 96 #[.int .u32 x, .int .i64 k] w fun e w' => e = .returned (.int .u32 (rotr x k)) ∧ w = w' := by
  have hm : (k : Int) % 32 = (k : Int) := by omega
  go_enter Tryd.func96, Tryd.ntmps96
  go_wp2_with (go_at_call 110; refine (rotl_any x k _ hx hk hk2).mono ?_; rintro e w' ⟨rfl, rfl⟩)
  go_ret
  exact ⟨rfl, rfl⟩
/-- the same for an Int, the world said the other way round: for regions that draw their order -/
theorem right_i (x : Nat) (k : Int) (w : World) (hx : x < 4294967296) (hk : 0 < k) (hk2 : k < 32) :
    Calls Tryd.prog 96 #[.int .u32 x, .int .i64 k] w fun e w' => e = .returned (.int .u32 (rotr x k.toNat)) ∧ w' = w := by
  obtain ⟨n, rfl⟩ := Int.eq_ofNat_of_zero_le (show 0 ≤ k by omega)
  exact (right_any x n w hx (by omega) (by omega)).mono fun e w' ⟨h1, h2⟩ => ⟨by rw [h1]; simp, h2.symm⟩
theorem bx3 (a b c : Nat) (ha : a < 4294967296) (hb : b < 4294967296) (hc : c < 4294967296) : bits .xor .u32 (bits .xor .u32 (a : Int) (b : Int)) (c : Int) = ((a ^^^ b ^^^ c : Nat) : Int) := by
  rw [u32_xor_nat _ _ ha hb, u32_xor_nat _ _ (xor_lt ha hb) hc]
def beN (l : List UInt8) : Nat := l.foldl (fun n c => n * 256 + c.toNat) 0
theorem beN_snoc (l : List UInt8) (c : UInt8) : beN (l ++ [c]) = beN l * 256 + c.toNat := by simp [beN]
theorem beN_lt (l : List UInt8) : ∀ k, beN (l.take k) < 256 ^ k
  | 0 => by simp [beN]
  | k + 1 => by
    have ih := beN_lt l k
    have hp : 256 ^ (k + 1) = 256 ^ k * 256 := Nat.pow_succ ..
    by_cases h : k < l.length
    · rw [List.take_succ_eq_append_getElem h, beN_snoc]
      have := l[k].toNat_lt
      omega
    · rw [List.take_of_length_le (by omega)] at ih ⊢
      omega
set_option maxHeartbeats 400000 in
theorem get_any (l : List UInt8) (w : World) (hl : l.length ≤ 8) :
    Calls Tryd.prog 109 #[sv l] w fun e w' => e = .returned (.int .u64 (beN l)) ∧ w = w' := by
  have hmn : min (l.length : Int) 8 = (l.length : Int) := by omega
  go_enter Tryd.func109, Tryd.ntmps109
  go_wp2
  go_loop [3, 8] (fun n i => ∃ k : Nat, k ≤ l.length ∧ i = .int .i64 k ∧ n = .int .u64 (beN (l.take k))) (fun _ i => l.length - (intOf i).toNat)
  case atStart => exact ⟨0, by omega, rfl, rfl⟩
  case round =>
    obtain ⟨k, hk, rfl, rfl⟩ := hrel
    by_cases hlt : k < l.length
    · have hb := beN_lt l k
      have hp : 256 ^ k ≤ 256 ^ 7 := Nat.pow_le_pow_right (by omega) (by omega)
      have hts := hid (show beN (l.take (k + 1)) = beN (l.take k) * 256 + l[k].toNat by rw [List.take_succ_eq_append_getElem hlt, beN_snoc])
      have hn : beN (l.take k) < 72057594037927936 := by have : (256 : Nat) ^ 7 = 72057594037927936 := by decide
                                                         omega
      clear hb hp
      generalize beN (l.take k) = n at *
      have hc := l[k].toNat_lt
      go_wp2
      go_round
      case rel => exact ⟨k + 1, by omega, by go_num, by rw [hts.out]; go_num⟩
      case measure => simp [intOf]; omega
    · go_wp2
      go_ret
      exact ⟨by rw [List.take_of_length_le (by omega)]; rfl, rfl⟩
theorem beL_low (n : Nat) : ∀ i, beL n (i + 1) = UInt8.ofNat (n / 256 ^ i % 256) :: beL n i
  | 0 => by simp [beL]
  | i + 1 => by
    rw [beL, beL_low (n / 256) i, List.cons_append]
    congr 1
    rw [Nat.div_div_eq_div_mul, Nat.pow_succ, Nat.mul_comm]
theorem put_step (n s k : Nat) (h : k < s) : (List.replicate (s - k) 0 ++ beL n k).set (s - 1 - k) (UInt8.ofNat (n / 256 ^ k % 256)) = List.replicate (s - (k + 1)) 0 ++ beL n (k + 1) := by
  rw [beL_low, show s - k = (s - (k + 1)) + 1 by omega, List.replicate_succ', List.append_assoc, List.set_append_right _ _ (by simp; omega)]
  simp [show s - 1 - k - (s - (k + 1)) = 0 by omega]
theorem Tryd.infoU8' : (Tryd.prog.info? 5).map (fun i => (i.zero, i.size, i.bytes)) = some (some (.int .u8 0), 1, 1) := by kernel_rfl
set_option maxHeartbeats 400000 in
theorem put_any (n s : Nat) (w : World) (hn : n < 18446744073709551616) (h1 : 1 ≤ s) (h8 : s ≤ 8) :
    Calls Tryd.prog 73 #[.int .u64 n, .int .i64 s] w fun e w' => e = .returned (sv (beL n s)) ∧ Below w.heap.size w w' := by
  obtain ⟨i0, hi, hz0, hz1, hz2⟩ := info_parts Tryd.infoU8'
  have hd1 : decide ((s : Int) < 1) = false := by simp; omega
  have hd2 : decide ((8 : Int) < (s : Int)) = false := by simp; omega
  have hmk := run_make_bytes (P := Tryd.prog) 108 5 i0 Tryd.underlying108 hi hz0 hz1 hz2 s (by omega)
  have Hn := hid hn; clear hn
  go_enter Tryd.func73, Tryd.ntmps73
  go_wp2
  go_loopw [0, 16] (fun x i wr => ∃ k : Nat, k ≤ s ∧ i = .int .i64 k ∧ x = .int .u64 (n / 256 ^ k : Nat) ∧ Blk wr w.heap.size (hc (List.replicate (s - k) 0 ++ beL n k)) 5 ∧ Below w.heap.size w wr) (fun _ i _ => s - (intOf i).toNat)
  case atStart => exact ⟨0, by omega, rfl, by simp, by simpa [beL] using Blk.new _ _ _, (Below.refl _ _).alloc (Nat.le_refl _) _⟩
  case round =>
    obtain ⟨k, hk, rfl, rfl, hB, hb⟩ := hrel
    by_cases hlt : k < s
    · obtain ⟨j, hj⟩ : ∃ j, s - 1 - k = j := ⟨_, rfl⟩
      have hj1 : (s : Int) - 1 - (k : Int) = (j : Int) := by omega
      have hc1 := hB.u8 j (by simp [beL_len]; omega)
      have hf1 := hB.free j
      have Hdiv := hid (show n / 256 ^ k / 256 = n / 256 ^ (k + 1) by rw [Nat.div_div_eq_div_mul, Nat.pow_succ])
      have HB2 := hid (put_step n s k hlt)
      have hjs : (j : Int) < s := by omega
      have Hj := hid hj; clear hj
      have Hm := hid (show Value.int IntKind.u8 (((n / 256 ^ k : Nat) : Int) % 256) = bcell (UInt8.ofNat (n / 256 ^ k % 256)) by rw [← bcell_mk _ (by omega)]; congr 1)
      have hN : n / 256 ^ k < 18446744073709551616 := Nat.lt_of_le_of_lt (Nat.div_le_self _ _) Hn.out
      generalize (UInt8.ofNat (n / 256 ^ k % 256)) = c at *
      generalize hx : n / 256 ^ k = x at *
      have HX := hid hx; clear hx
      clear HX
      go_wp2
      go_roundw
      case rel =>
        refine ⟨k + 1, by omega, by go_num, ?_, ?_, ?_⟩
        · rw [← Hdiv.out]; go_num
        · have := hB.u8set j c
          have h2 := HB2.out
          rw [Hj.out] at h2
          rw [h2] at this
          rw [Hm.out]
          exact this
        · exact hb.setCell (by simp) _
      case measure => simp [intOf]; omega
    · obtain rfl : k = s := by omega
      have hcv := run_convert_bytes_back (P := Tryd.prog) (w := wr) 108 9 5 ⟨w.heap.size, 0, none⟩ k (beL n k) Tryd.underlying108 Tryd.underlying5 Tryd.underlying9
        (fun j hj => by rw [cell_at_row hB]; simp [hc, hj]; rfl)
      rw [beL_len] at hcv
      go_wp2
      go_ret
      exact ⟨rfl, hb⟩
theorem put_int (x : Int) (s : Nat) (w : World) (h0 : 0 ≤ x) (hn : x < 18446744073709551616) (h1 : 1 ≤ s) (h8 : s ≤ 8) :
    Calls Tryd.prog 73 #[.int .u64 x, .int .i64 s] w fun e w' => e = .returned (sv (beL x.toNat s)) ∧ Below w.heap.size w w' := by
  obtain ⟨n, rfl⟩ := Int.eq_ofNat_of_zero_le h0
  exact put_any n s w (by omega) h1 h8
end Go.Proofs.YtbpjlancjdbehaaDoor
/- sha.filled -/
namespace Go.Proofs.YtbpjlancjdbehaaDoor
open Go.RowKit Go.Spec
theorem repeatL_one (c : UInt8) : ∀ n, Lib.repeatL [c] n = List.replicate n c
  | 0 => rfl
  | n + 1 => by
    have ih := repeatL_one c n
    simp [Lib.repeatL, List.replicate_succ] at *
    try exact ih
theorem repeat_any (c : UInt8) (n : Nat) (w : World) (hn : n ≤ 1000000) :
    Calls Tryd.prog 94 #[.string ⟨#[c]⟩, .int .i64 n] w fun e w' => e = .returned (sv (List.replicate n c)) ∧ Below w.heap.size w w' :=
  (Tryd.strings_Repeat ⟨#[c]⟩ n w (by omega) (by simp [ByteArray.size]; omega)).mono fun e w' ⟨he, hb⟩ => ⟨by rw [he]; show Ending.returned (.string (mkS (Lib.repeatL [c] n))) = _; rw [repeatL_one], hb⟩
set_option maxHeartbeats 400000 in
theorem filled_any (l : List UInt8) (w : World) (hl : l.length ≤ 1000000000) :
    Calls Tryd.prog 71 #[sv l] w fun e w' => e = .returned (sv (padL l)) ∧ Below w.heap.size w w' := by
  obtain ⟨z, hz⟩ : ∃ z, (119 - l.length % 64) % 64 = z := ⟨_, rfl⟩
  have hz1 : (119 - (l.length : Int) % 64) % 64 = (z : Int) := by omega
  have hz2 : z ≤ 1000000 := by omega
  have Hfin := hid (show padL l = l ++ [128] ++ List.replicate z 0 ++ beL (l.length * 8) 8 by rw [padL, hz])
  clear hz
  have HB := Below.refl w.heap.size w
  go_enter Tryd.func71, Tryd.ntmps71
  go_wp2_with (first
    | (go_at_call 94; refine (repeat_any 0 z _ hz2).mono ?_; rintro e w1 ⟨rfl, hb⟩; replace HB := bth HB hb; clear hb)
    | (go_at_call 73; refine (put_int ((l.length : Int) * 8) 8 _ (by omega) (by omega) (by omega) (by omega)).mono ?_; rintro e w2 ⟨rfl, hb⟩; replace HB := bth HB hb; clear hb))
  go_ret
  exact ⟨by rw [Hfin.out]; simp [go_sem], HB⟩
end Go.Proofs.YtbpjlancjdbehaaDoor
/- sha.spread -/
namespace Go.Proofs.YtbpjlancjdbehaaDoor
open Go.RowKit Go.Spec
theorem word_get (b : List UInt8) (i : Nat) (h : 4 * i + 4 ≤ b.length) : beN ((b.take (4 * i + 4)).drop (4 * i)) = word b i := by
  have e : (b.take (4 * i + 4)).drop (4 * i) = [b.getD (4 * i) 0, b.getD (4 * i + 1) 0, b.getD (4 * i + 2) 0, b.getD (4 * i + 3) 0] := by
    apply List.ext_getElem
    · simp; omega
    · intro j h1 h2
      simp only [List.length_cons, List.length_nil] at h2
      rw [List.getElem_drop, List.getElem_take]
      rcases j with _ | _ | _ | _ | j
      · simp [List.getElem?_eq_getElem (show 4 * i < b.length by omega)]
      · simp [List.getElem?_eq_getElem (show 4 * i + 1 < b.length by omega)]
      · simp [List.getElem?_eq_getElem (show 4 * i + 2 < b.length by omega)]
      · simp [List.getElem?_eq_getElem (show 4 * i + 3 < b.length by omega)]
      · omega
  rw [e]
  simp [beN, word]
theorem set_next (ws : List Nat) (n x : Nat) : (ws ++ List.replicate (n + 1) 0).set ws.length x = (ws ++ [x]) ++ List.replicate n 0 := by
  rw [List.set_append_right _ _ (Nat.le_refl _)]
  simp [List.replicate_succ]
theorem getD_pre (ws : List Nat) (r : List Nat) (i : Nat) (h : i < ws.length) : (ws ++ r).getD i 0 = ws.getD i 0 := by
  rw [List.getD_eq_getElem?_getD, List.getD_eq_getElem?_getD, List.getElem?_append_left h]
theorem wsch_getD_lt (b : List UInt8) (n i : Nat) : (wsch b n).getD i 0 < 4294967296 := by
  rw [List.getD_eq_getElem?_getD]
  cases h : (wsch b n)[i]? with
  | none => simp
  | some x => exact wsch_lt b n x (List.mem_of_getElem? h)
theorem spread_val (a b x y : Nat) (hx : x < 4294967296) (hy : y < 4294967296) :
    ((a : Int) + (b : Int) + bits .xor .u32 (bits .xor .u32 ((rotr x 7 : Nat) : Int) ((rotr x 18 : Nat) : Int)) ((x : Int) / 8) + bits .xor .u32 (bits .xor .u32 ((rotr y 17 : Nat) : Int) ((rotr y 19 : Nat) : Int)) ((y : Int) / 1024)) % 4294967296
      = (((a + b + sg0 x + sg1 y) % 4294967296 : Nat) : Int) := by
  rw [show ((x : Int) / 8) = ((x / 8 : Nat) : Int) by omega, show ((y : Int) / 1024) = ((y / 1024 : Nat) : Int) by omega,
    bx3 _ _ _ (rotr_lt _ _ hx) (rotr_lt _ _ hx) (by omega), bx3 _ _ _ (rotr_lt _ _ hy) (rotr_lt _ _ hy) (by omega)]
  unfold sg0 sg1
  omega
theorem Tryd.size64 : (Tryd.prog.info? 130).map (·.size) = some 64 := by kernel_rfl
set_option maxHeartbeats 1000000 in
theorem spread_any (b : List UInt8) (w : World) (hb : b.length = 64) :
    Calls Tryd.prog 95 #[sv b] w fun e w' => e = .returned (.agg (rowOf uc (wsch b 64))) ∧ Below w.heap.size w w' := by
  have Hb := hid hb
  have hb1 : (64 : Int) ≤ (b.length : Int) := by omega
  have hb2 : b.length ≤ 64 := by omega
  clear hb
  go_enter Tryd.func95, Tryd.ntmps95
  go_wp2
  go_loopw [6] (fun i wr => ∃ k : Nat, k ≤ 64 ∧ i = .int .i64 k ∧ Blk wr w.heap.size (rowOf uc (wsch b k ++ List.replicate (64 - k) 0)) 130 ∧ Below w.heap.size w wr) (fun i _ => 64 - (intOf i).toNat)
  case atStart => exact ⟨0, by omega, rfl, Blk.new _ _ _, (Below.refl _ _).alloc (Nat.le_refl _) _⟩
  case round =>
    obtain ⟨k, hk, rfl, hB, hbw⟩ := hrel
    by_cases hlt : k < 64
    · have hlen : (wsch b k ++ List.replicate (64 - k) 0).length = 64 := by simp [wsch_len]; omega
      have hst := hB.u32 k (by omega)
      have hfr := hB.free k
      have Hset := hid (fun x => hB.u32set k x)
      have HN := hid (fun x => (show (wsch b k ++ List.replicate (64 - k) 0).set k x = (wsch b k ++ [x]) ++ List.replicate (64 - (k + 1)) 0 by
        have := set_next (wsch b k) (63 - k) x
        rw [wsch_len] at this
        rw [show 64 - k = 63 - k + 1 by omega, show 64 - (k + 1) = 63 - k by omega]; exact this))
      by_cases h16 : k < 16
      · have hd16 : decide ((k : Int) < 16) = true := by simp; omega
        have Hw := hid (word_get b k (by have := Hb.out; omega))
        have Hw2 := hid (show wsch b (k + 1) = wsch b k ++ [word b k] by rw [wsch, if_pos h16])
        have hwl := word_lt b k
        generalize (wsch b k ++ List.replicate (64 - k) 0).getD k 0 = z at *
        generalize hW : word b k = W at *
        have HWW := hid hW; clear hW
        clear hlen
        go_wp2_with (go_at_call 109; refine (get_any _ _ (by simp; omega)).mono ?_; rintro e w1 ⟨rfl, rfl⟩)
        rw [Hw.out, show ((W : Int) % 4294967296) = (W : Int) by omega]
        go_roundw
        case rel =>
          refine ⟨k + 1, by omega, by go_num, ?_, hbw.setCell (Nat.le_refl _) _⟩
          have := Hset.out W
          rw [HN.out W, ← Hw2.out] at this
          exact this
        case measure => simp [intOf]; omega
      · have hd16 : decide ((k : Int) < 16) = false := by simp; omega
        have Hw2 := hid (show wsch b (k + 1) = wsch b k ++ [wnew (wsch b k) k] by rw [wsch, if_neg h16])
        obtain ⟨j16, h16'⟩ : ∃ j, k - 16 = j := ⟨_, rfl⟩
        obtain ⟨j15, h15'⟩ : ∃ j, k - 15 = j := ⟨_, rfl⟩
        obtain ⟨j7, h7'⟩ : ∃ j, k - 7 = j := ⟨_, rfl⟩
        obtain ⟨j2, h2'⟩ : ∃ j, k - 2 = j := ⟨_, rfl⟩
        have e16 : (k : Int) - 16 = (j16 : Int) := by omega
        have e15 : (k : Int) - 15 = (j15 : Int) := by omega
        have e7 : (k : Int) - 7 = (j7 : Int) := by omega
        have e2 : (k : Int) - 2 = (j2 : Int) := by omega
        have l16 : j16 < k := by omega
        have l15 : j15 < k := by omega
        have l7 : j7 < k := by omega
        have l2 : j2 < k := by omega
        have m16 : (j16 : Int) < 64 := by omega
        have m15 : (j15 : Int) < 64 := by omega
        have m7 : (j7 : Int) < 64 := by omega
        have m2 : (j2 : Int) < 64 := by omega
        have c16 := hB.u32 j16 (by omega)
        have c15 := hB.u32 j15 (by omega)
        have c7 := hB.u32 j7 (by omega)
        have c2 := hB.u32 j2 (by omega)
        rw [getD_pre _ _ _ (by rw [wsch_len]; omega)] at c16 c15 c7 c2
        have hc16 : (rowOf uc (wsch b k ++ List.replicate (64 - k) 0))[j16]? = some (.int .u32 ((wsch b k).getD j16 0 : Nat)) := by rw [← hB.cell]; exact c16
        have hc7 : (rowOf uc (wsch b k ++ List.replicate (64 - k) 0))[j7]? = some (.int .u32 ((wsch b k).getD j7 0 : Nat)) := by rw [← hB.cell]; exact c7
        have hck : (rowOf uc (wsch b k ++ List.replicate (64 - k) 0))[k]? = some (.int .u32 ((wsch b k ++ List.replicate (64 - k) 0).getD k 0 : Nat)) := by rw [← hB.cell]; exact hst
        have Hc16 := hid hc16; have Hc7 := hid hc7; have Hck := hid hck
        clear hc16 hc7 hck
        have Hnew := hid (show wnew (wsch b k) k = ((wsch b k).getD j16 0 + (wsch b k).getD j7 0 + sg0 ((wsch b k).getD j15 0) + sg1 ((wsch b k).getD j2 0)) % 4294967296 by rw [wnew, h16', h15', h7', h2'])
        have b15 := wsch_getD_lt b k j15
        have b2 := wsch_getD_lt b k j2
        generalize (wsch b k).getD j16 0 = a16 at *
        generalize (wsch b k).getD j15 0 = a15 at *
        generalize (wsch b k).getD j7 0 = a7 at *
        generalize (wsch b k).getD j2 0 = a2 at *
        generalize (wsch b k ++ List.replicate (64 - k) 0).getD k 0 = z at *
        have Hval := hid (spread_val a16 a7 a15 a2 b15 b2)
        clear h16 h16' h15' h7' h2' hlen
        go_wp2
        go_quiet (fail)
        go_wp2_with fail
        have w16 := IntWalk.i64_in (j16 : Int) (by omega)
        have w7 := IntWalk.i64_in (j7 : Int) (by omega)
        refine wp_region_tail 29 (by kernel_rfl) (by kernel_rfl) ?_
        intro w1 he1 hb1
        simp only [List.take_succ_cons, List.take_zero, List.drop_succ_cons, List.drop_zero]
        have hB1 := hB.heap (w' := w1) he1
        have d16 := hB1.cell j16; rw [Hc16.out] at d16
        have d7 := hB1.cell j7; rw [Hc7.out] at d7
        have dk := hB1.cell k; rw [Hck.out] at dk
        have dfr := hB1.free k
        repeat (first | still_step | still_call (right_i _ _ _ b15 (by omega) (by omega)) | still_call (right_i _ _ _ b2 (by omega) (by omega)))
        refine wpStill_nil ?_
        go_wp2
        go_roundw
        case rel =>
          refine ⟨k + 1, by omega, by go_num, ?_, ((below_drewN hbw nq).trans (hb1.mono hbw.size)).setCell (Nat.le_refl _) _⟩
          have := hB1.u32set k (wnew (wsch b k) k)
          rw [HN.out, ← Hw2.out, Hnew.out, ← Hval.out] at this
          exact this
        case measure => simp [intOf]; omega
    · obtain rfl : k = 64 := by omega
      simp only [Nat.sub_self, List.replicate_zero, List.append_nil] at hB
      have Hs := hid (show (Tryd.prog.info? 130).map (·.size) = some (rowOf uc (wsch b 64)).size by rw [rowOf_size, wsch_len]; exact Tryd.size64)
      have HB := hid hB; clear hB
      go_wp2_with (first
        | ((with_reducible show wpList _ _ _ ({ dst := _, op := Op.load 130 _, type := _, pos := _, after := _, guard := _ } :: _) _ _); refine wpList_load_blk rfl 130 _ rfl _ rfl _ _ _ HB.out Tryd.underlying130 rfl Hs.out ?_)
        | ((with_reducible show wpList _ _ _ ({ dst := _, op := Op.store _ _ _, type := _, pos := _, after := _, guard := _ } :: _) _ _); refine wpList_store_blk rfl 130 _ _ rfl _ rfl _ rfl _ _ HB.out rfl Hs.out (uc_row_one _) ?_))
      have HB2 := HB.out.setRow (cs' := rowOf uc (wsch b 64))
      refine bodyPost_ret (results_cell_row rfl _ _ w.heap.size 130 _ (0, 0) _ rfl HB2 Tryd.underlying130 rfl Hs.out) rfl ⟨rfl, ?_⟩
      exact hbw.setRow (Nat.le_refl _) _
end Go.Proofs.YtbpjlancjdbehaaDoor
/- sha.mix -/
namespace Go.Proofs.YtbpjlancjdbehaaDoor
open Go.RowKit Go.Spec
theorem Tryd.size8 : (Tryd.prog.info? 105).map (·.size) = some 8 := by kernel_rfl
theorem Tryd.sizeU32 : (Tryd.prog.info? 104).map (·.size) = some 1 := by kernel_rfl
theorem v8cells {w : World} {g : Nat} {t : TypeId} {a b c d e f g' h : Nat} (hB : Blk w g (rowOf uc [a, b, c, d, e, f, g', h]) t) :
    w.cell? ⟨g, 0, none⟩ = some (.int .u32 a) ∧ w.cell? ⟨g, 1, none⟩ = some (.int .u32 b) ∧ w.cell? ⟨g, 2, none⟩ = some (.int .u32 c) ∧ w.cell? ⟨g, 3, none⟩ = some (.int .u32 d) ∧
    w.cell? ⟨g, 4, none⟩ = some (.int .u32 e) ∧ w.cell? ⟨g, 5, none⟩ = some (.int .u32 f) ∧ w.cell? ⟨g, 6, none⟩ = some (.int .u32 g') ∧ w.cell? ⟨g, 7, none⟩ = some (.int .u32 h) :=
  ⟨hB.u32 0 (by simp), hB.u32 1 (by simp), hB.u32 2 (by simp), hB.u32 3 (by simp), hB.u32 4 (by simp), hB.u32 5 (by simp), hB.u32 6 (by simp), hB.u32 7 (by simp)⟩
theorem t_val (v : V8) (K n : Nat) (ok : v.ok) :
    IntKind.u32.wrap (IntKind.u32.wrap (IntKind.u32.wrap (IntKind.u32.wrap ((v.h : Int) + bits .xor .u32 (bits .xor .u32 ((rotr v.e 6 : Nat) : Int) ((rotr v.e 11 : Nat) : Int)) ((rotr v.e 25 : Nat) : Int)) + bits .xor .u32 (bits .and .u32 (v.e : Int) (v.f : Int)) (bits .and .u32 (bits .xor .u32 IntKind.u32.max (v.e : Int)) (v.g : Int))) + (K : Int)) + (n : Int)) = ((tF v K n : Nat) : Int) := by
  have he := ok.e
  have hf := ok.f
  have hg := ok.g
  rw [bx3 _ _ _ (rotr_lt _ _ he) (rotr_lt _ _ he) (rotr_lt _ _ he), u32_and_nat _ _ he hf, show (IntKind.u32.max : Int) = ((4294967295 : Nat) : Int) by rfl, u32_xor_nat 4294967295 _ (by omega) he, u32_and_nat _ _ (xor_lt (by omega) he) hg,
    u32_xor_nat _ _ (and_lt he) (and_lt (xor_lt (by omega) he))]
  simp only [IntKind.wrap_u32]
  unfold tF su1 chF
  omega
theorem u_val (v : V8) (ok : v.ok) :
    IntKind.u32.wrap (bits .xor .u32 (bits .xor .u32 ((rotr v.a 2 : Nat) : Int) ((rotr v.a 13 : Nat) : Int)) ((rotr v.a 22 : Nat) : Int) + bits .xor .u32 (bits .xor .u32 (bits .and .u32 (v.a : Int) (v.b : Int)) (bits .and .u32 (v.a : Int) (v.c : Int))) (bits .and .u32 (v.b : Int) (v.c : Int))) = ((uF v : Nat) : Int) := by
  have ha := ok.a
  have hb := ok.b
  have hc := ok.c
  rw [bx3 _ _ _ (rotr_lt _ _ ha) (rotr_lt _ _ ha) (rotr_lt _ _ ha), u32_and_nat _ _ ha hb, u32_and_nat _ _ ha hc, u32_and_nat _ _ hb hc, bx3 _ _ _ (and_lt ha) (and_lt ha) (and_lt hb), IntKind.wrap_u32]
  unfold uF su0 maj
  omega
def addK (xs ys : List Nat) : Nat → List Nat
  | 0 => xs
  | k + 1 => (addK xs ys k).set k ((xs.getD k 0 + ys.getD k 0) % 4294967296)
theorem addK_len (xs ys : List Nat) : ∀ k, (addK xs ys k).length = xs.length
  | 0 => rfl
  | k + 1 => by rw [addK, List.length_set, addK_len xs ys k]
theorem addK_get (xs ys : List Nat) : ∀ k j, k ≤ j → (addK xs ys k).getD j 0 = xs.getD j 0
  | 0, _, _ => rfl
  | k + 1, j, h => by
    rw [addK, ← addK_get xs ys k j (by omega), List.getD_eq_getElem?_getD, List.getElem?_set_ne (by omega), List.getD_eq_getElem?_getD]
theorem addK_all (V v : V8) : addK V.l v.l 8 = (addV V v).l := rfl
set_option maxHeartbeats 1000000 in
theorem mix_any (v : V8) (b : List UInt8) (w : World) (hv : v.ok) (hb : b.length = 64) (hT : Tab w 1 rK) :
    Calls Tryd.prog 72 #[.agg (rowOf uc v.l), sv b] w fun e w' => e = .returned (.agg (rowOf uc (mixF v b).l)) ∧ Below w.heap.size w w' := by
  have Hs := hid (show (Tryd.prog.info? 105).map (·.size) = some (rowOf uc v.l).size by rw [rowOf_size]; exact Tryd.size8)
  have HT := hid hT; clear hT
  have Hb := hid hb; clear hb
  go_enter Tryd.func72, Tryd.ntmps72
  go_wp2_with (first
    | ((with_reducible show wpList _ _ _ ({ dst := _, op := Op.load 105 _, type := _, pos := _, after := _, guard := _ } :: _) _ _); refine wpList_load_blk rfl 105 _ rfl w.heap.size rfl _ (rowOf uc v.l) _ ((Blk.new w _ _).alloc _) Tryd.underlying105 rfl Hs.out ?_)
    | ((with_reducible show wpList _ _ _ ({ dst := _, op := Op.store _ _ _, type := _, pos := _, after := _, guard := _ } :: _) _ _); refine wpList_store_blk rfl 105 _ _ rfl (w.heap.size + 1 + 1) rfl (rowOf uc v.l) rfl _ _ (Blk.new' _ _ _ (by simp)) rfl Hs.out (uc_row_one _) ?_)
    | (go_at_call 95; refine (spread_any b _ Hb.out).mono ?_; rintro e w1 ⟨rfl, hb1⟩))
  have hb2 : Below w.heap.size w w1 := ((((Below.refl _ w).alloc (Nat.le_refl _) _).alloc (by simp) _).alloc (by simp; omega) _ |>.setRow (by omega) _).trans (hb1.mono (by simp; omega))
  have hW0 : Blk w1 w.heap.size (rowOf uc v.l) 105 := ((((Blk.new w _ _).alloc _).alloc _).setRow_ne (by omega)).later hb1
  have hW1 : Blk w1 (w.heap.size + 1) #[.int .u32 0, .int .u32 0, .int .u32 0, .int .u32 0, .int .u32 0, .int .u32 0, .int .u32 0, .int .u32 0] 105 := (((Blk.new' _ _ _ (by simp)).alloc _).setRow_ne (by omega)).later hb1
  have hW2 : Blk w1 (w.heap.size + 1 + 1) (rowOf uc v.l) 105 := ((Blk.new' _ _ _ (by simp)).setRow).later hb1
  have hT1 := HT.out.later hb2
  clear hb1
  generalize hg5 : w.heap.size + 1 + 1 = g5 at *
  generalize hg4 : w.heap.size + 1 = g4 at *
  have Hg5 := hid hg5; have Hg4 := hid hg4; clear hg5 hg4
  have Hws := hid (fun k (h : k < 64) => run_index_row (P := Tryd.prog) 130 104 64 (wsch b 64) k Tryd.underlying130 Tryd.underlying104 Tryd.sizeU32 h (by rw [wsch_len]; exact h))
  go_loopw [16] (fun i wr => ∃ k : Nat, k ≤ 64 ∧ i = .int .i64 k ∧ Blk wr g5 (rowOf uc (rnds v (wsch b 64) k).l) 105 ∧ Blk wr w.heap.size (rowOf uc v.l) 105 ∧
      Blk wr g4 #[.int .u32 0, .int .u32 0, .int .u32 0, .int .u32 0, .int .u32 0, .int .u32 0, .int .u32 0, .int .u32 0] 105 ∧ Tab wr 1 rK ∧ Below w.heap.size w wr) (fun i _ => 64 - (intOf i).toNat)
  case atStart => exact ⟨0, by omega, rfl, hW2, hW0, hW1, hT1, hb2⟩
  case round =>
    obtain ⟨k, hk, rfl, hB, h0, h4, hTr, hbw⟩ := hrel
    clear hW0 hW1 hW2 hT1 hb2
    by_cases hlt : k < 64
    · have hix := Hws.out k hlt
      have hkk : (k : Int) < 64 := by omega
      have hVok := rnds_ok hv (wsch b 64) k
      have Hnext := hid (show rnds v (wsch b 64) (k + 1) = rnd (rnds v (wsch b 64) k) (rK.getD k 0) ((wsch b 64).getD k 0) from rfl)
      have hcK := hTr.at_ k hlt
      have hKlt : rK.getD k 0 < 4294967296 := by
        have : ∀ k : Fin 64, rK.getD k.val 0 < 4294967296 := by decide +kernel
        exact this ⟨k, hlt⟩
      have hNlt := wsch_getD_lt b 64 k
      generalize rK.getD k 0 = K at *
      generalize (wsch b 64).getD k 0 = n at *
      generalize hV : rnds v (wsch b 64) k = V at *
      have HV := hid hV; clear hV
      obtain ⟨a, b', c, d, e, f, g', z⟩ := V
      have HT6 := hid (t_val ⟨a, b', c, d, e, f, g', z⟩ K n hVok)
      have HT7 := hid (u_val ⟨a, b', c, d, e, f, g', z⟩ hVok)
      have HTlt := tF_lt ⟨a, b', c, d, e, f, g', z⟩ K n
      have HUlt := uF_lt ⟨a, b', c, d, e, f, g', z⟩
      have Hrnd := hid (show rnd ⟨a, b', c, d, e, f, g', z⟩ K n = ⟨(tF ⟨a, b', c, d, e, f, g', z⟩ K n + uF ⟨a, b', c, d, e, f, g', z⟩) % 4294967296, a, b', c, (d + tF ⟨a, b', c, d, e, f, g', z⟩ K n) % 4294967296, e, f, g'⟩ from rfl)
      generalize tF ⟨a, b', c, d, e, f, g', z⟩ K n = T at *
      generalize uF ⟨a, b', c, d, e, f, g', z⟩ = U at *
      dsimp only at HT6 HT7
      obtain ⟨va, vb, vc, vd, ve, vf, vg, vh⟩ := hVok
      simp only at va vb vc vd ve vf vg vh
      simp only [V8.l] at hB
      obtain ⟨c0, c1, c2, c3, c4, c5, c6, c7⟩ := v8cells hB
      go_wp2
      go_quiet (fail)
      go_wp2_with fail
      refine wp_region_tail 28 (by kernel_rfl) (by kernel_rfl) ?_
      intro w1 he1 hb1
      simp only [List.take_succ_cons, List.take_zero, List.drop_succ_cons, List.drop_zero]
      have hB1 := hB.heap (w' := w1) he1
      have hcK1 : w1.cell? ⟨1, k, none⟩ = some (.int .u32 K) := by rw [← hcK]; unfold World.cell?; rw [he1]; rfl
      obtain ⟨c10, c11, c12, c13, c14, c15, c16, c17⟩ := v8cells hB1
      repeat (first | still_step | still_call (right_i _ _ _ ve (by omega) (by omega)))
      refine wpStill_nil ?_
      go_wp2_with fail
      rw [HT6.out]
      refine wp_region_tail 24 (by kernel_rfl) (by kernel_rfl) ?_
      intro w2 he2 hb2
      simp only [List.take_succ_cons, List.take_zero, List.drop_succ_cons, List.drop_zero]
      have hB2 := hB1.heap (w' := w2) he2
      obtain ⟨c20, c21, c22, c23, c24, c25, c26, c27⟩ := v8cells hB2
      repeat (first | still_step | still_call (right_i _ _ _ va (by omega) (by omega)))
      refine wpStill_nil ?_
      rw [HT7.out]
      have hnew : (Value.agg #[.int .u32 (((T : Int) + (U : Int)) % 4294967296), .int .u32 (a : Int), .int .u32 (b' : Int), .int .u32 (c : Int), .int .u32 (((d : Int) + (T : Int)) % 4294967296), .int .u32 (e : Int), .int .u32 (f : Int), .int .u32 (g' : Int)])
          = .agg (rowOf uc [(T + U) % 4294967296, a, b', c, (d + T) % 4294967296, e, f, g']) := by
        simp [rowOf, uc]
      have Hnew := hid hnew; clear hnew
      go_wp2_with ((with_reducible show wpList _ _ _ ({ dst := _, op := Op.store _ _ _, type := _, pos := _, after := _, guard := _ } :: _) _ _); refine wpList_store_blk rfl 105 _ _ rfl g5 rfl (rowOf uc [(T + U) % 4294967296, a, b', c, (d + T) % 4294967296, e, f, g']) Hnew.out _ _ hB2 rfl Tryd.size8 (uc_row_one _) ?_)
      go_roundw
      case rel =>
        have hg0 : w.heap.size < g4 := by have := Hg4.out; omega
        have hg1 : g4 < g5 := by have := Hg4.out; have := Hg5.out; omega
        have he3 : w2.heap = wr.heap := by rw [he2]; exact he1
        refine ⟨k + 1, by omega, by go_num, ?_, ((h0.heap he3).setRow_ne (by omega)), ((h4.heap he3).setRow_ne (by omega)), ?_, ?_⟩
        · rw [Hnext.out, Hrnd.out]
          exact hB2.setRow
        · exact Tab.row (hTr.heap he3) (by have := HT.out.lt; omega)
        · exact ((below_drewN hbw nq).trans ((hb1.trans (hb2.mono hb1.size)).mono hbw.size)).setRow (by omega) _
      case measure => simp [intOf]; omega
    · have hk64 : k = 64 := by omega
      clear Hws
      have HmixF := hid (show mixF v b = addV (rnds v (wsch b 64) k) v by rw [hk64]; rfl)
      clear hk64
      generalize rnds v (wsch b 64) k = V at *
      go_wp2
      have hg0 : w.heap.size < g4 := by have := Hg4.out; omega
      have hg1 : g4 < g5 := by have := Hg4.out; have := Hg5.out; omega
      go_loopw [95] (fun i wr => ∃ k : Nat, k ≤ 8 ∧ i = .int .i64 k ∧ Blk wr g5 (rowOf uc (addK V.l v.l k)) 105 ∧ Blk wr w.heap.size (rowOf uc v.l) 105 ∧
          Blk wr g4 #[.int .u32 0, .int .u32 0, .int .u32 0, .int .u32 0, .int .u32 0, .int .u32 0, .int .u32 0, .int .u32 0] 105 ∧ Below w.heap.size w wr) (fun i _ => 8 - (intOf i).toNat)
      case atStart => exact ⟨0, by omega, rfl, hB, h0, h4, hbw⟩
      case round =>
        clear hB h0 h4 hTr hbw
        obtain ⟨k, hk, rfl, hB, h0, h4, hbw⟩ := hrel
        by_cases hlt : k < 8
        · have hkk : (k : Int) < 8 := by omega
          have w16 := IntWalk.i64_in (k : Int) (by omega)
          have Hset := hid (show addK V.l v.l (k + 1) = (addK V.l v.l k).set k ((V.l.getD k 0 + v.l.getD k 0) % 4294967296) from rfl)
          have Hget := hid (addK_get V.l v.l k k (Nat.le_refl _))
          have Hl := hid (addK_len V.l v.l k)
          go_wp2_with fail
          refine wp_region_tail 8 (by kernel_rfl) (by kernel_rfl) ?_
          intro w1 he1 hb1
          simp only [List.take_succ_cons, List.take_zero, List.drop_succ_cons, List.drop_zero]
          have hB1 := hB.heap (w' := w1) he1
          have c1 := hB1.u32 k (by rw [Hl.out]; exact hlt)
          rw [Hget.out] at c1
          have c2 := (h0.heap (w' := w1) he1).u32 k (by exact hlt)
          have f1 := hB1.free k
          have Hfin := hid (hB1.u32set k ((V.l.getD k 0 + v.l.getD k 0) % 4294967296))
          generalize V.l.getD k 0 = x at *
          generalize v.l.getD k 0 = y at *
          have Hxy := hid (show (((x + y) % 4294967296 : Nat) : Int) = ((x : Int) + (y : Int)) % 4294967296 by omega)
          repeat (first | still_step)
          refine wpStill_nil ?_
          go_wp2
          go_roundw
          case rel =>
            refine ⟨k + 1, by omega, by go_num, ?_, ((h0.heap he1).setCell_ne (by show g5 ≠ _; omega) _), ((h4.heap he1).setCell_ne (by show g5 ≠ _; omega) _), (hbw.trans (hb1.mono hbw.size)).setCell (by show _ ≤ g5; omega) _⟩
            rw [Hset.out, ← Hxy.out]; exact Hfin.out
          case measure => simp [intOf]; omega
        · obtain rfl : k = 8 := by omega
          rw [addK_all, ← HmixF.out] at hB
          have Hs2 := hid (show (Tryd.prog.info? 105).map (·.size) = some (rowOf uc (mixF v b).l).size by rw [rowOf_size, V8.len]; exact Tryd.size8)
          have Hl8 := hid (show (rowOf uc (mixF v b).l).size = 8 by rw [rowOf_size, V8.len])
          have HB := hid hB; clear hB
          go_wp2_with (first
            | ((with_reducible show wpList _ _ _ ({ dst := _, op := Op.load 105 _, type := _, pos := _, after := _, guard := _ } :: _) _ _); refine wpList_load_blk rfl 105 _ rfl _ rfl _ _ _ HB.out Tryd.underlying105 rfl Hs2.out ?_)
            | ((with_reducible show wpList _ _ _ ({ dst := _, op := Op.store _ _ _, type := _, pos := _, after := _, guard := _ } :: _) _ _); refine wpList_store_blk rfl 105 _ _ rfl g4 rfl _ rfl _ _ h4 Hl8.out Hs2.out (uc_row_one _) ?_))
          have HB2 := h4.setRow (cs' := rowOf uc (mixF v b).l)
          refine bodyPost_ret (results_cell_row rfl _ _ g4 105 _ (0, 0) _ rfl HB2 Tryd.underlying105 rfl Hs2.out) rfl ⟨rfl, ?_⟩
          exact hbw.setRow (by omega) _
end Go.Proofs.YtbpjlancjdbehaaDoor
