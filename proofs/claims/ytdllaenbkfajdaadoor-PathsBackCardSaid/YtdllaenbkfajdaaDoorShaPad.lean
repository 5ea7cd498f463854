/- speculumref02.turn, speculumref02.pad -/
import Derived.Test.YtdllaenbkfajdaaDoorShaSum
import Derived.Test.YtdllaenbkfajdaaDoorBytes
set_option maxRecDepth 100000
namespace Go.Proofs.YtdllaenbkfajdaaDoor
open Go.RowKit Go.Spec
theorem rot_or2 (x k j : Nat) (h : k + j = 32) (hx : x < 4294967296) : bits .or .u32 ((x : Int) / 2 ^ k) ((x : Int) * 2 ^ j % 4294967296) = ((rotr x k : Nat) : Int) := by
  have e1 : ((x : Int) * 2 ^ j % 4294967296) = ((x * 2 ^ j % 4294967296 : Nat) : Int) := by
    rw [Int.natCast_emod, Int.natCast_mul, Int.natCast_pow]; rfl
  have e2 : ((x : Int) / 2 ^ k) = ((x / 2 ^ k : Nat) : Int) := by rw [Int.natCast_ediv, Int.natCast_pow]; rfl
  rw [e1, e2, u32_or_nat _ _ (Nat.lt_of_le_of_lt (Nat.div_le_self _ _) hx) (Nat.mod_lt _ (by decide))]
  unfold rotr
  rw [show 32 - k = j by omega]
theorem beL_get : ∀ (k n m : Nat), m < k → (beL n k)[m]? = some (UInt8.ofNat (n / 256 ^ (k - 1 - m) % 256))
  | 0, _, _, h => by omega
  | k + 1, n, m, h => by
    rw [beL]
    by_cases hm : m < k
    · rw [List.getElem?_append_left (by rw [beL_len]; exact hm), beL_get k (n / 256) m hm, Nat.div_div_eq_div_mul, show k + 1 - 1 - m = (k - 1 - m) + 1 by omega, Nat.pow_succ, Nat.mul_comm]
    · obtain rfl : m = k := by omega
      rw [List.getElem?_append_right (by rw [beL_len]; exact Nat.le_refl _), beL_len]
      simp
theorem beL_take (n k m : Nat) (h : m < k) : (beL n k).take (m + 1) = (beL n k).take m ++ [UInt8.ofNat (n / 256 ^ (k - 1 - m) % 256)] := by
  have hl : m < (beL n k).length := by rw [beL_len]; exact h
  rw [List.take_succ_eq_append_getElem hl]
  have := beL_get k n m h
  rw [List.getElem?_eq_getElem hl] at this
  injection this with this
  rw [this]
set_option maxHeartbeats 400000 in
theorem turn_any (x k : Nat) (w : World) (hx : x < 4294967296) (hk : 0 < k) (hk2 : k < 32) :
    Calls Tryd.prog 42 #[.int .u32 x, .int .u32 k] w fun e w' => e = .returned (.int .u32 (rotr x k)) ∧ w' = w := by
  obtain ⟨j, hj⟩ : ∃ j, k + j = 32 := ⟨32 - k, by omega⟩
  have h2 := hid (rot_or2 x k j hj hx)
  have hj3 : min ((j : Int)).toNat 32 = j := by omega
  have hk3 : min ((k : Int)).toNat 32 = k := by omega
  have hj5 : (32 - (k : Int)) = (j : Int) := by omega
  have hj6 : (j : Int) ≤ 32 := by omega
  have hk6 : (k : Int) ≤ 32 := by omega
  have Hj := hid hj; clear hj
  go_enter Tryd.func42, Tryd.ntmps42
  go_wp2
  go_ret
  exact ⟨by rw [← h2.out]; rfl, rfl⟩
theorem turn_i (x : Nat) (k : Int) (w : World) (hx : x < 4294967296) (hk : 0 < k) (hk2 : k < 32) :
    Calls Tryd.prog 42 #[.int .u32 x, .int .u32 k] w fun e w' => e = .returned (.int .u32 (rotr x k.toNat)) ∧ w' = w := by
  obtain ⟨n, rfl⟩ := Int.eq_ofNat_of_zero_le (show 0 ≤ k by omega)
  exact turn_any x n w hx (by omega) (by omega)
def sliceLen : Value → Nat
  | .slice _ n _ => n
  | _ => 0
theorem padL_snoc (l : List UInt8) (k : Nat) : l ++ [128] ++ List.replicate (k + 1) 0 = l ++ [128] ++ List.replicate k 0 ++ [0] := by
  rw [List.replicate_succ', List.append_assoc, List.append_assoc, List.append_assoc]
set_option maxHeartbeats 1000000 in
theorem pad_any (l : List UInt8) (w : World) (hl : l.length ≤ 1000000000) :
    Calls Tryd.prog 41 #[sv l] w fun e w' => ∃ v, e = .returned v ∧ RowM w' w.heap.size 5 v (padL l) ∧ Below w.heap.size w w' := by
  obtain ⟨i0, hi, hz0, hz1, hz2⟩ := info_parts Tryd.infoU8'
  have hml : l.length ≤ maxLen := by unfold maxLen; omega
  go_enter Tryd.func41, Tryd.ntmps41
  go_wp2_with (first
    | ((with_reducible show wpList _ _ _ ({ dst := _, op := Op.convert _ _ _, type := _, pos := _, after := _, guard := _ } :: _) _ _); refine wpList_convM rfl 9 41 5 _ rfl l rfl Tryd.underlying9 Tryd.underlying41 Tryd.underlying5 hml ?_; intro v1 w1 hr1 hb1; obtain ⟨g1, cap1, rfl, hg1⟩ := hr1.get)
    | (at_builtin; refine wpList_appM rfl _ _ 41 rfl w.heap.size 5 i0 Tryd.underlying41 hi hz0 hz1 hz2 rfl (hr1.alloc _) (by have := hb1.size; simp; omega) 128 ⟨w1.heap.size, 0, none⟩ 1 rfl ((Blk.new' _ _ _ rfl).cell 0) rfl (by omega) ?_; intro v2 w2 hr2 hb2))
  clear hr1 hg1
  obtain ⟨z, hz⟩ : ∃ z, (119 - l.length % 64) % 64 = z := ⟨_, rfl⟩
  have Hfin := hid (show padL l = l ++ [128] ++ List.replicate z 0 ++ beL (l.length * 8) 8 by rw [padL, hz])
  have Hz := hid hz
  have hz64 : z < 64 := by omega
  clear hz
  have hb3 : Below w.heap.size w w2 := hb1.trans ((((Below.refl _ w1).alloc (Nat.le_refl _) _).mono hb1.size).trans (by assumption))
  go_loopw [3] (fun v wr => ∃ k : Nat, k ≤ z ∧ RowM wr w.heap.size 5 v (l ++ [128] ++ List.replicate k 0) ∧ Below w.heap.size w wr) (fun v _ => z + l.length + 1 - sliceLen v)
  case atStart => exact ⟨0, by omega, by simpa using hr2, hb3⟩
  case round =>
    obtain ⟨k, hk, hr, hb⟩ := hrel
    clear hr2 hb2 hb3
    have hLl : (l ++ [128] ++ List.replicate k 0).length = l.length + 1 + k := by simp; omega
    obtain ⟨g, cap, rfl, hgb, hgl, hgc, hgcell⟩ := hr.get
    have Hs := hid (padL_snoc l k)
    generalize hLd : l ++ [128] ++ List.replicate k 0 = L at *
    have HL := hid hLd; clear hLd
    have HLl := hid hLl
    have hL1 : L.length ≤ 2000000000 := by omega
    clear hgcell hgc
    by_cases hlt : k < z
    · have ht : (((L.length : Int) % 64) != 56) = true := by simp; have := Hz.out; omega
      have ht2 : (((L.length : Int) % 64) == 56) = false := by simp; have := Hz.out; omega
      clear hLl
      go_wp2_with (at_builtin; refine wpList_appM rfl _ _ 41 rfl w.heap.size 5 i0 Tryd.underlying41 hi hz0 hz1 hz2 rfl (hr.alloc _) (by have := hb.size; simp; omega) 0 ⟨wr.heap.size, 0, none⟩ 1 rfl ((Blk.new' _ _ _ rfl).cell 0) rfl (by omega) ?_; intro v2 w2 hr2 hb2)
      obtain ⟨g2, cap2, rfl, hg2⟩ := hr2.get
      go_roundw
      case rel => exact ⟨k + 1, by omega, by rw [Hs.out]; exact hr2, (hb.alloc hb.size _).trans hb2⟩
      case measure => have := HLl.out; simp only [sliceLen, List.length_append, List.length_singleton]; omega
    · have hkz : k = z := by omega
      have ht : (((L.length : Int) % 64) != 56) = false := by simp; have := Hz.out; omega
      have ht2 : (((L.length : Int) % 64) == 56) = true := by simp; have := Hz.out; omega
      clear hLl
      obtain ⟨n, hn⟩ : ∃ n, l.length * 8 = n := ⟨_, rfl⟩
      have hn1 : (l.length : Int) * 8 = (n : Int) := by omega
      have hn2 : n < 18446744073709551616 := by omega
      have Hfin2 := hid (show padL l = L ++ beL n 8 by rw [Hfin.out, ← hkz, hn, HL.out])
      clear hn hkz
      go_wp2
      have Hr := hid hr
      have Hb := hid hb
      obtain ⟨wo, hwo⟩ : ∃ wo : World, wo = wr := ⟨_, rfl⟩
      rw [← hwo]
      have hr' : RowM wo w.heap.size 5 (.slice (some ⟨g, 0, none⟩) L.length cap) L := by rw [hwo]; exact hr
      have hb' : Below w.heap.size w wo := by rw [hwo]; exact hb
      clear hr hb Hr Hb hgl hwo
      go_loopw [3, 5] (fun v i wr => ∃ m : Nat, m ≤ 8 ∧ i = .int .i64 (7 - (m : Int)) ∧ RowM wr w.heap.size 5 v (L ++ (beL n 8).take m) ∧ Below w.heap.size w wr) (fun _ i _ => (intOf i + 1).toNat)
      case atStart => exact ⟨0, by omega, rfl, by simpa using hr', hb'⟩
      case round =>
        obtain ⟨m, hm, rfl, hr, hb⟩ := hrel
        clear hr' hb'
        have hLl : (L ++ (beL n 8).take m).length = L.length + m := by simp [beL_len]; omega
        obtain ⟨g1, cap1, rfl, hgb1, hgl1, hgc1, hgcell1⟩ := hr.get
        by_cases hlt : m < 8
        · obtain ⟨j, hj⟩ : ∃ j, 7 - m = j := ⟨_, rfl⟩
          have hj1 : 7 - (m : Int) = (j : Int) := by omega
          have hj2 : min (8 * (j : Int)).toNat 64 = 8 * j := by omega
          have hj3 : 0 ≤ 8 * (j : Int) := by omega
          have hj4 : 8 * (j : Int) ≤ 64 := by omega
          have Ht := hid (show (beL n 8).take (m + 1) = (beL n 8).take m ++ [UInt8.ofNat (n / 256 ^ j % 256)] by rw [beL_take n 8 m hlt, show 8 - 1 - m = j by omega])
          have Hv := hid (show Value.int .u8 (((n : Int) / 2 ^ (8 * j)) % 256) = bcell (UInt8.ofNat (n / 256 ^ j % 256)) by
            rw [← bcell_mk _ (by omega)]
            congr 1
            rw [Int.natCast_emod, Int.natCast_ediv, Int.natCast_pow, show ((256 : Nat) : Int) = 256 from rfl, Int.pow_mul]
            rfl)
          have Hcat := hid (List.append_assoc L ((beL n 8).take m) [UInt8.ofNat (n / 256 ^ j % 256)])
          generalize L ++ (beL n 8).take m = M at *
          generalize UInt8.ofNat (n / 256 ^ j % 256) = c at *
          clear hgcell1 hgc1
          have hM : M.length ≤ 3000000000 := by omega
          go_wp2_with (at_builtin; refine wpList_appM rfl _ _ 41 rfl w.heap.size 5 i0 Tryd.underlying41 hi hz0 hz1 hz2 rfl (hr.alloc _) (by have := hb.size; simp; omega) c ⟨wr.heap.size, 0, none⟩ 1 rfl (by rw [(Blk.new' _ _ _ rfl).cell 0, ← Hv.out]; rfl) rfl (by omega) ?_; intro v2 w2 hr2 hb2)
          obtain ⟨g2, cap2, rfl, hg2⟩ := hr2.get
          go_roundw
          case rel =>
            refine ⟨m + 1, by omega, by simp; omega, ?_, (hb.alloc hb.size _).trans hb2⟩
            rw [Ht.out, ← Hcat.out]; exact hr2
          case measure => simp [intOf]; omega
        · have hm8 : m = 8 := by omega
          have hneg : decide (0 ≤ 7 - (m : Int)) = false := by simp; omega
          have hlist : L ++ (beL n 8).take m = padL l := by rw [hm8, List.take_of_length_le (by rw [beL_len]; exact Nat.le_refl _), ← Hfin2.out]
          rw [hLl, hlist] at hr
          clear hlist
          have Hr := hid hr
          go_wp2
          go_ret
          refine ⟨_, rfl, ?_, hb⟩
          show RowM _ _ _ (.slice (some ⟨g1, 0, none⟩) (L ++ List.take m (beL n 8)).length cap1) _
          rw [hLl]; exact Hr.out
end Go.Proofs.YtdllaenbkfajdaaDoor
