/- SHA-256 as plain functions on lists of bytes and on numbers. -/
import Derived.Test.YtbpjlancjdbehaaDoorQBase
import Derived.Laws.BitsAllLaws
set_option maxRecDepth 100000
namespace Go.Spec
def rotr (x k : Nat) : Nat := (x / 2 ^ k) ||| (x * 2 ^ (32 - k) % 4294967296)
def sg0 (x : Nat) : Nat := rotr x 7 ^^^ rotr x 18 ^^^ x / 8
def sg1 (x : Nat) : Nat := rotr x 17 ^^^ rotr x 19 ^^^ x / 1024
def su0 (x : Nat) : Nat := rotr x 2 ^^^ rotr x 13 ^^^ rotr x 22
def su1 (x : Nat) : Nat := rotr x 6 ^^^ rotr x 11 ^^^ rotr x 25
def chF (e f g : Nat) : Nat := (e &&& f) ^^^ ((4294967295 ^^^ e) &&& g)
def maj (a b c : Nat) : Nat := (a &&& b) ^^^ (a &&& c) ^^^ (b &&& c)
structure V8 where
  a : Nat
  b : Nat
  c : Nat
  d : Nat
  e : Nat
  f : Nat
  g : Nat
  h : Nat
structure V8.ok (v : V8) : Prop where
  a : v.a < 4294967296
  b : v.b < 4294967296
  c : v.c < 4294967296
  d : v.d < 4294967296
  e : v.e < 4294967296
  f : v.f < 4294967296
  g : v.g < 4294967296
  h : v.h < 4294967296
def V8.l (v : V8) : List Nat := [v.a, v.b, v.c, v.d, v.e, v.f, v.g, v.h]
theorem V8.len (v : V8) : v.l.length = 8 := rfl
def tF (v : V8) (k w : Nat) : Nat := (v.h + su1 v.e + chF v.e v.f v.g + k + w) % 4294967296
def uF (v : V8) : Nat := (su0 v.a + maj v.a v.b v.c) % 4294967296
def rnd (v : V8) (k w : Nat) : V8 := ⟨(tF v k w + uF v) % 4294967296, v.a, v.b, v.c, (v.d + tF v k w) % 4294967296, v.e, v.f, v.g⟩
def addV (v w : V8) : V8 := ⟨(v.a + w.a) % 4294967296, (v.b + w.b) % 4294967296, (v.c + w.c) % 4294967296, (v.d + w.d) % 4294967296, (v.e + w.e) % 4294967296, (v.f + w.f) % 4294967296, (v.g + w.g) % 4294967296, (v.h + w.h) % 4294967296⟩
/-- a block's first numbers -/
def word (b : List UInt8) (i : Nat) : Nat := (((b.getD (4 * i) 0).toNat * 256 + (b.getD (4 * i + 1) 0).toNat) * 256 + (b.getD (4 * i + 2) 0).toNat) * 256 + (b.getD (4 * i + 3) 0).toNat
def wnew (ws : List Nat) (i : Nat) : Nat := (ws.getD (i - 16) 0 + ws.getD (i - 7) 0 + sg0 (ws.getD (i - 15) 0) + sg1 (ws.getD (i - 2) 0)) % 4294967296
/-- the first n numbers of a block -/
def wsch (b : List UInt8) : Nat → List Nat
  | 0 => []
  | n + 1 => wsch b n ++ [if n < 16 then word b n else wnew (wsch b n) n]
def rK : List Nat := [
  0x428a2f98, 0x71374491, 0xb5c0fbcf, 0xe9b5dba5, 0x3956c25b, 0x59f111f1, 0x923f82a4, 0xab1c5ed5,
  0xd807aa98, 0x12835b01, 0x243185be, 0x550c7dc3, 0x72be5d74, 0x80deb1fe, 0x9bdc06a7, 0xc19bf174,
  0xe49b69c1, 0xefbe4786, 0x0fc19dc6, 0x240ca1cc, 0x2de92c6f, 0x4a7484aa, 0x5cb0a9dc, 0x76f988da,
  0x983e5152, 0xa831c66d, 0xb00327c8, 0xbf597fc7, 0xc6e00bf3, 0xd5a79147, 0x06ca6351, 0x14292967,
  0x27b70a85, 0x2e1b2138, 0x4d2c6dfc, 0x53380d13, 0x650a7354, 0x766a0abb, 0x81c2c92e, 0x92722c85,
  0xa2bfe8a1, 0xa81a664b, 0xc24b8b70, 0xc76c51a3, 0xd192e819, 0xd6990624, 0xf40e3585, 0x106aa070,
  0x19a4c116, 0x1e376c08, 0x2748774c, 0x34b0bcb5, 0x391c0cb3, 0x4ed8aa4a, 0x5b9cca4f, 0x682e6ff3,
  0x748f82ee, 0x78a5636f, 0x84c87814, 0x8cc70208, 0x90befffa, 0xa4506ceb, 0xbef9a3f7, 0xc67178f2]
def v0 : V8 := ⟨0x6a09e667, 0xbb67ae85, 0x3c6ef372, 0xa54ff53a, 0x510e527f, 0x9b05688c, 0x1f83d9ab, 0x5be0cd19⟩
def rnds (v : V8) (ws : List Nat) : Nat → V8
  | 0 => v
  | n + 1 => rnd (rnds v ws n) (rK.getD n 0) (ws.getD n 0)
def mixF (v : V8) (b : List UInt8) : V8 := addV (rnds v (wsch b 64) 64) v
/-- the first n blocks -/
def blks (l : List UInt8) : Nat → V8
  | 0 => v0
  | n + 1 => mixF (blks l n) ((l.drop (64 * n)).take 64)
/-- a number's bytes, the highest first -/
def beL (n : Nat) : Nat → List UInt8
  | 0 => []
  | k + 1 => beL (n / 256) k ++ [UInt8.ofNat (n % 256)]
def padL (l : List UInt8) : List UInt8 := l ++ [128] ++ List.replicate ((119 - l.length % 64) % 64) 0 ++ beL (l.length * 8) 8
def outL (v : V8) : List UInt8 := v.l.flatMap (beL · 4)
def sumL (l : List UInt8) : List UInt8 := outL (blks (padL l) ((padL l).length / 64))
theorem sum_abc : sumL [97, 98, 99] = [0xba, 0x78, 0x16, 0xbf, 0x8f, 0x01, 0xcf, 0xea, 0x41, 0x41, 0x40, 0xde, 0x5d, 0xae, 0x22, 0x23, 0xb0, 0x03, 0x61, 0xa3, 0x96, 0x17, 0x7a, 0x9c, 0xb4, 0x10, 0xff, 0x61, 0xf2, 0x00, 0x15, 0xad] := by decide +kernel
theorem sum_nil : sumL [] = [0xe3, 0xb0, 0xc4, 0x42, 0x98, 0xfc, 0x1c, 0x14, 0x9a, 0xfb, 0xf4, 0xc8, 0x99, 0x6f, 0xb9, 0x24, 0x27, 0xae, 0x41, 0xe4, 0x64, 0x9b, 0x93, 0x4c, 0xa4, 0x95, 0x99, 0x1b, 0x78, 0x52, 0xb8, 0x55] := by decide +kernel
/- Sizes. -/
theorem rotr_lt (x k : Nat) (hx : x < 4294967296) : rotr x k < 4294967296 := by
  unfold rotr
  exact Nat.or_lt_two_pow (n := 32) (Nat.lt_of_le_of_lt (Nat.div_le_self _ _) hx) (Nat.mod_lt _ (by decide))
theorem xor_lt {x y : Nat} (hx : x < 4294967296) (hy : y < 4294967296) : x ^^^ y < 4294967296 := Nat.xor_lt_two_pow (n := 32) hx hy
theorem and_lt {x y : Nat} (hx : x < 4294967296) : x &&& y < 4294967296 := Nat.lt_of_le_of_lt Nat.and_le_left hx
theorem sg0_lt (x : Nat) (hx : x < 4294967296) : sg0 x < 4294967296 := xor_lt (xor_lt (rotr_lt _ _ hx) (rotr_lt _ _ hx)) (by omega)
theorem sg1_lt (x : Nat) (hx : x < 4294967296) : sg1 x < 4294967296 := xor_lt (xor_lt (rotr_lt _ _ hx) (rotr_lt _ _ hx)) (by omega)
theorem su0_lt (x : Nat) (hx : x < 4294967296) : su0 x < 4294967296 := xor_lt (xor_lt (rotr_lt _ _ hx) (rotr_lt _ _ hx)) (rotr_lt _ _ hx)
theorem su1_lt (x : Nat) (hx : x < 4294967296) : su1 x < 4294967296 := xor_lt (xor_lt (rotr_lt _ _ hx) (rotr_lt _ _ hx)) (rotr_lt _ _ hx)
theorem chF_lt (e f g : Nat) (he : e < 4294967296) : chF e f g < 4294967296 := xor_lt (and_lt he) (and_lt (xor_lt (by omega) he))
theorem maj_lt (a b c : Nat) (ha : a < 4294967296) (hb : b < 4294967296) : maj a b c < 4294967296 := xor_lt (xor_lt (and_lt ha) (and_lt ha)) (and_lt hb)
theorem tF_lt (v : V8) (k w : Nat) : tF v k w < 4294967296 := Nat.mod_lt _ (by decide)
theorem uF_lt (v : V8) : uF v < 4294967296 := Nat.mod_lt _ (by decide)
theorem rnd_ok {v : V8} (h : v.ok) (k w : Nat) : (rnd v k w).ok := ⟨Nat.mod_lt _ (by decide), h.a, h.b, h.c, Nat.mod_lt _ (by decide), h.e, h.f, h.g⟩
theorem addV_ok (v w : V8) : (addV v w).ok := by constructor <;> exact Nat.mod_lt _ (by decide)
theorem v0_ok : v0.ok := by constructor <;> decide
theorem rnds_ok {v : V8} (h : v.ok) (ws : List Nat) : ∀ n, (rnds v ws n).ok
  | 0 => h
  | n + 1 => rnd_ok (rnds_ok h ws n) _ _
theorem mixF_ok (v : V8) (b : List UInt8) : (mixF v b).ok := addV_ok _ _
theorem blks_ok (l : List UInt8) : ∀ n, (blks l n).ok
  | 0 => v0_ok
  | _ + 1 => mixF_ok _ _
theorem word_lt (b : List UInt8) (i : Nat) : word b i < 4294967296 := by
  unfold word
  have h0 := (b.getD (4 * i) 0).toNat_lt
  have h1 := (b.getD (4 * i + 1) 0).toNat_lt
  have h2 := (b.getD (4 * i + 2) 0).toNat_lt
  have h3 := (b.getD (4 * i + 3) 0).toNat_lt
  omega
theorem wsch_len (b : List UInt8) : ∀ n, (wsch b n).length = n
  | 0 => rfl
  | n + 1 => by simp [wsch, wsch_len b n]
theorem wsch_lt (b : List UInt8) : ∀ n, ∀ x ∈ wsch b n, x < 4294967296
  | 0, x, hx => by simp [wsch] at hx
  | n + 1, x, hx => by
    simp only [wsch, List.mem_append, List.mem_singleton] at hx
    rcases hx with hx | rfl
    · exact wsch_lt b n x hx
    · split
      · exact word_lt _ _
      · exact Nat.mod_lt _ (by decide)
theorem wsch_pre (b : List UInt8) : ∀ (n m : Nat), n ≤ m → (wsch b m).take n = wsch b n
  | n, 0, h => by have : n = 0 := by omega
                  subst this; rfl
  | n, m + 1, h => by
    by_cases hm : n = m + 1
    · subst hm; rw [List.take_of_length_le (by rw [wsch_len]; omega)]
    · rw [wsch, List.take_append_of_le_length (by rw [wsch_len]; omega)]
      exact wsch_pre b n m (by omega)
theorem wsch_get (b : List UInt8) (n m i : Nat) (h : i < n) (hm : n ≤ m) : (wsch b n).getD i 0 = (wsch b m).getD i 0 := by
  rw [← wsch_pre b n m hm, List.getD_eq_getElem?_getD, List.getD_eq_getElem?_getD, List.getElem?_take_of_lt h]
@[go_sem] theorem beL_len (n : Nat) : ∀ k, (beL n k).length = k
  | 0 => rfl
  | k + 1 => by simp [beL, beL_len _ k]
@[go_sem] theorem outL_len (v : V8) : (outL v).length = 32 := by simp [outL, V8.l, beL_len]
@[go_sem] theorem sumL_len (l : List UInt8) : (sumL l).length = 32 := outL_len _
theorem padL_len (l : List UInt8) : (padL l).length % 64 = 0 := by
  simp only [padL, List.length_append, List.length_replicate, beL_len, List.length_cons, List.length_nil]
  omega
theorem padL_le (l : List UInt8) : (padL l).length ≤ l.length + 72 := by
  simp only [padL, List.length_append, List.length_replicate, beL_len, List.length_cons, List.length_nil]
  omega
end Go.Spec
