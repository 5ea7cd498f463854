/- speculumref02.turn, speculumref02.pad -/
import Derived.Test.YtbpjlancjdbehaaDoorQBytes
import Derived.Test.YtbpjlancjdbehaaDoorQShaSum

set_option maxRecDepth 100000
namespace Go.Proofs.YtbpjlancjdbehaaDoor
open Go.RowKit Go.Spec
theorem rot_or2 (x k j : Nat) (h : k + j = 32) (hx : x < 4294967296) : bits .or .u32 ((x : Int) / 2 ^ k) ((x : Int) * 2 ^ j % 4294967296) = ((rotr x k : Nat) : Int) := by
  have e1 : ((x : Int) * 2 ^ j % 4294967296) = ((x * 2 ^ j % 4294967296 : Nat) : Int) := by
    rw [Int.natCast_emod, Int.natCast_mul, Int.natCast_pow]; rfl
  have e2 : ((x : Int) / 2 ^ k) = ((x / 2 ^ k : Nat) : Int) := by rw [Int.natCast_ediv, Int.natCast_pow]; rfl
  rw [e1, e2, u32_or_nat _ _ (Nat.lt_of_le_of_lt (Nat.div_le_self _ _) hx) (Nat.mod_lt _ (by decide))]
  unfold rotr
  rw [show 32 - k = j by omega]
theorem beL_get : ∀ (k n m : Nat), m < k → (beL n k)[m]? = some (UInt8.ofNat (n / 256 ^ (k - 1 - m) % 256))
  | 0, _, _, h => by omega
  | k + 1, n, m, h => by
    rw [beL]
    by_cases hm : m < k
    · rw [List.getElem?_append_left (by rw [beL_len]; exact hm), beL_get k (n / 256) m hm, Nat.div_div_eq_div_mul, show k + 1 - 1 - m = (k - 1 - m) + 1 by omega, Nat.pow_succ, Nat.mul_comm]
    · obtain rfl : m = k := by omega
      rw [List.getElem?_append_right (by rw [beL_len]; exact Nat.le_refl _), beL_len]
      simp
theorem beL_take (n k m : Nat) (h : m < k) : (beL n k).take (m + 1) = (beL n k).take m ++ [UInt8.ofNat (n / 256 ^ (k - 1 - m) % 256)] := by
  have hl : m < (beL n k).length := by rw [beL_len]; exact h
  rw [List.take_succ_eq_append_getElem hl]
  have := beL_get k n m h
  rw [List.getElem?_eq_getElem hl] at this
  injection this with this
  rw [this]
set_option maxHeartbeats 400000 in
theorem turn_any (x k : Nat) (w : World) (hx : x < 4294967296) (hk : 0 < k) (hk2 : k < 32) :
    Calls Tryd.prog 92 #[.int .u32 x, .int .u32 k] w fun e w' => e = .returned (.int .u32 (rotr x k)) ∧ w' = w := by
  obtain ⟨j, hj⟩ : ∃ j, k + j = 32 := ⟨32 - k, by omega⟩
  have h2 := hid (rot_or2 x k j hj hx)
  have hj3 : min ((j : Int)).toNat 32 = j := by omega
  have hk3 : min ((k : Int)).toNat 32 = k := by omega
  have hj5 : (32 - (k : Int)) = (j : Int) := by omega
  have hj6 : (j : Int) ≤ 32 := by omega
  have hk6 : (k : Int) ≤ 32 := by omega
  have Hj := hid hj; clear hj
  go_enter Tryd.func92, Tryd.ntmps92
  go_wp2
  go_ret
  exact ⟨by rw [← h2.out]; rfl, rfl⟩
theorem turn_i (x : Nat) (k : Int) (w : World) (hx : x < 4294967296) (hk : 0 < k) (hk2 : k < 32) :
    Calls Tryd.prog 92 #[.int .u32 x, .int .u32 k] w fun e w' => e = .returned (.int .u32 (rotr x k.toNat)) ∧ w' = w := by
  obtain ⟨n, rfl⟩ := Int.eq_ofNat_of_zero_le (show 0 ≤ k by omega)
  exact turn_any x n w hx (by omega) (by omega)
def sliceLen : Value → Nat
  | .slice _ n _ => n
  | _ => 0
theorem padL_snoc (l : List UInt8) (k : Nat) : l ++ [128] ++ List.replicate (k + 1) 0 = l ++ [128] ++ List.replicate k 0 ++ [0] := by
  rw [List.replicate_succ', List.append_assoc, List.append_assoc, List.append_assoc]
set_option maxHeartbeats 1000000 in
theorem pad_any (l : List UInt8) (w : World) (hl : l.length ≤ 1000000000) :
    Calls Tryd.prog 91 #[sv l] w fun e w' => ∃ v, e = .returned v ∧ RowM w' w.heap.size 5 v (padL l) ∧ Below w.heap.size w w' := by
  obtain ⟨i0, hi, hz0, hz1, hz2⟩ := info_parts Tryd.infoU8'
  have hml : l.length ≤ maxLen := by unfold maxLen; omega
  go_enter Tryd.func91, Tryd.ntmps91
  go_wp2_with (first
    | ((with_reducible show wpList _ _ _ ({ dst := _, op := Op.convert _ _ _, type := _, pos := _, after := _, guard := _ } :: _) _ _); refine wpList_convM rfl 9 108 5 _ rfl l rfl Tryd.underlying9 Tryd.underlying108 Tryd.underlying5 hml ?_; intro v1 w1 hr1 hb1; obtain ⟨g1, cap1, rfl, hg1⟩ := hr1.get)
    | (at_builtin; refine wpList_appM rfl _ _ 108 rfl w.heap.size 5 i0 Tryd.underlying108 hi hz0 hz1 hz2 rfl (hr1.alloc _) (by have := hb1.size; simp; omega) 128 ⟨w1.heap.size, 0, none⟩ 1 rfl ((Blk.new' _ _ _ rfl).cell 0) rfl (by omega) ?_; intro v2 w2 hr2 hb2))
  clear hr1 hg1
  obtain ⟨z, hz⟩ : ∃ z, (119 - l.length % 64) % 64 = z := ⟨_, rfl⟩
  have Hfin := hid (show padL l = l ++ [128] ++ List.replicate z 0 ++ beL (l.length * 8) 8 by rw [padL, hz])
  have Hz := hid hz
  have hz64 : z < 64 := by omega
  clear hz
  have hb3 : Below w.heap.size w w2 := hb1.trans ((((Below.refl _ w1).alloc (Nat.le_refl _) _).mono hb1.size).trans (by assumption))
  go_loopw [3] (fun v wr => ∃ k : Nat, k ≤ z ∧ RowM wr w.heap.size 5 v (l ++ [128] ++ List.replicate k 0) ∧ Below w.heap.size w wr) (fun v _ => z + l.length + 1 - sliceLen v)
  case atStart => exact ⟨0, by omega, by simpa using hr2, hb3⟩
  case round =>
    obtain ⟨k, hk, hr, hb⟩ := hrel
    clear hr2 hb2 hb3
    have hLl : (l ++ [128] ++ List.replicate k 0).length = l.length + 1 + k := by simp; omega
    obtain ⟨g, cap, rfl, hgb, hgl, hgc, hgcell⟩ := hr.get
    have Hs := hid (padL_snoc l k)
    generalize hLd : l ++ [128] ++ List.replicate k 0 = L at *
    have HL := hid hLd; clear hLd
    have HLl := hid hLl
    have hL1 : L.length ≤ 2000000000 := by omega
    clear hgcell hgc
    by_cases hlt : k < z
    · have ht : (((L.length : Int) % 64) != 56) = true := by simp; have := Hz.out; omega
      have ht2 : (((L.length : Int) % 64) == 56) = false := by simp; have := Hz.out; omega
      clear hLl
      go_wp2_with (at_builtin; refine wpList_appM rfl _ _ 108 rfl w.heap.size 5 i0 Tryd.underlying108 hi hz0 hz1 hz2 rfl (hr.alloc _) (by have := hb.size; simp; omega) 0 ⟨wr.heap.size, 0, none⟩ 1 rfl ((Blk.new' _ _ _ rfl).cell 0) rfl (by omega) ?_; intro v2 w2 hr2 hb2)
      obtain ⟨g2, cap2, rfl, hg2⟩ := hr2.get
      go_roundw
      case rel => exact ⟨k + 1, by omega, by rw [Hs.out]; exact hr2, (hb.alloc hb.size _).trans hb2⟩
      case measure => have := HLl.out; simp only [sliceLen, List.length_append, List.length_singleton]; omega
    · have hkz : k = z := by omega
      have ht : (((L.length : Int) % 64) != 56) = false := by simp; have := Hz.out; omega
      have ht2 : (((L.length : Int) % 64) == 56) = true := by simp; have := Hz.out; omega
      clear hLl
      obtain ⟨n, hn⟩ : ∃ n, l.length * 8 = n := ⟨_, rfl⟩
      have hn1 : (l.length : Int) * 8 = (n : Int) := by omega
      have hn2 : n < 18446744073709551616 := by omega
      have Hfin2 := hid (show padL l = L ++ beL n 8 by rw [Hfin.out, ← hkz, hn, HL.out])
      clear hn hkz
      go_wp2
      have Hr := hid hr
      have Hb := hid hb
      obtain ⟨wo, hwo⟩ : ∃ wo : World, wo = wr := ⟨_, rfl⟩
      rw [← hwo]
      have hr' : RowM wo w.heap.size 5 (.slice (some ⟨g, 0, none⟩) L.length cap) L := by rw [hwo]; exact hr
      have hb' : Below w.heap.size w wo := by rw [hwo]; exact hb
      clear hr hb Hr Hb hgl hwo
      go_loopw [3, 5] (fun v i wr => ∃ m : Nat, m ≤ 8 ∧ i = .int .i64 (7 - (m : Int)) ∧ RowM wr w.heap.size 5 v (L ++ (beL n 8).take m) ∧ Below w.heap.size w wr) (fun _ i _ => (intOf i + 1).toNat)
      case atStart => exact ⟨0, by omega, rfl, by simpa using hr', hb'⟩
      case round =>
        obtain ⟨m, hm, rfl, hr, hb⟩ := hrel
        clear hr' hb'
        have hLl : (L ++ (beL n 8).take m).length = L.length + m := by simp [beL_len]; omega
        obtain ⟨g1, cap1, rfl, hgb1, hgl1, hgc1, hgcell1⟩ := hr.get
        by_cases hlt : m < 8
        · obtain ⟨j, hj⟩ : ∃ j, 7 - m = j := ⟨_, rfl⟩
          have hj1 : 7 - (m : Int) = (j : Int) := by omega
          have hj2 : min (8 * (j : Int)).toNat 64 = 8 * j := by omega
          have hj3 : 0 ≤ 8 * (j : Int) := by omega
          have hj4 : 8 * (j : Int) ≤ 64 := by omega
          have Ht := hid (show (beL n 8).take (m + 1) = (beL n 8).take m ++ [UInt8.ofNat (n / 256 ^ j % 256)] by rw [beL_take n 8 m hlt, show 8 - 1 - m = j by omega])
          have Hv := hid (show Value.int .u8 (((n : Int) / 2 ^ (8 * j)) % 256) = bcell (UInt8.ofNat (n / 256 ^ j % 256)) by
            rw [← bcell_mk _ (by omega)]
            congr 1
            rw [Int.natCast_emod, Int.natCast_ediv, Int.natCast_pow, show ((256 : Nat) : Int) = 256 from rfl, Int.pow_mul]
            rfl)
          have Hcat := hid (List.append_assoc L ((beL n 8).take m) [UInt8.ofNat (n / 256 ^ j % 256)])
          generalize L ++ (beL n 8).take m = M at *
          generalize UInt8.ofNat (n / 256 ^ j % 256) = c at *
          clear hgcell1 hgc1
          have hM : M.length ≤ 3000000000 := by omega
          go_wp2_with (at_builtin; refine wpList_appM rfl _ _ 108 rfl w.heap.size 5 i0 Tryd.underlying108 hi hz0 hz1 hz2 rfl (hr.alloc _) (by have := hb.size; simp; omega) c ⟨wr.heap.size, 0, none⟩ 1 rfl (by rw [(Blk.new' _ _ _ rfl).cell 0, ← Hv.out]; rfl) rfl (by omega) ?_; intro v2 w2 hr2 hb2)
          obtain ⟨g2, cap2, rfl, hg2⟩ := hr2.get
          go_roundw
          case rel =>
            refine ⟨m + 1, by omega, by simp; omega, ?_, (hb.alloc hb.size _).trans hb2⟩
            rw [Ht.out, ← Hcat.out]; exact hr2
          case measure => simp [intOf]; omega
        · have hm8 : m = 8 := by omega
          have hneg : decide (0 ≤ 7 - (m : Int)) = false := by simp; omega
          have hlist : L ++ (beL n 8).take m = padL l := by rw [hm8, List.take_of_length_le (by rw [beL_len]; exact Nat.le_refl _), ← Hfin2.out]
          rw [hLl, hlist] at hr
          clear hlist
          have Hr := hid hr
          go_wp2
          go_ret
          refine ⟨_, rfl, ?_, hb⟩
          show RowM _ _ _ (.slice (some ⟨g1, 0, none⟩) (L ++ List.take m (beL n 8)).length cap1) _
          rw [hLl]; exact Hr.out
end Go.Proofs.YtbpjlancjdbehaaDoor
/- speculumref02.Sum: what its walk needs -/
namespace Go.Proofs.YtbpjlancjdbehaaDoor
open Go.RowKit Go.Spec
/-- where all lies in the reference's Sum -/
structure RS (w wr : World) (g0 g3 g4 g5 g6 : Nat) (p : List UInt8) (V ws : List Nat) : Prop where
  h0 : Blk wr g0 (hc zero32) 29
  k : Blk wr g3 (rowOf uc rK) 130
  v : Blk wr g4 (rowOf uc V) 105
  b : ∀ j, j < p.length → wr.cell? ⟨g5, j, none⟩ = some (.int .u8 ((p.getD j 0).toNat : Nat))
  blt : g5 < wr.heap.size
  w6 : Blk wr g6 (rowOf uc ws) 130
  below : Below w.heap.size w wr
  d : w.heap.size ≤ g0 ∧ g0 < g3 ∧ g3 < g4 ∧ g4 < g5 ∧ g5 < g6
  wl : ws.length = 64
  vl : V.length = 8
theorem cell_heap {w w' : World} (he : w'.heap = w.heap) (a : Addr) : w'.cell? a = w.cell? a := by unfold World.cell?; rw [he]
theorem cell_set_ne {w : World} {a b : Addr} (h : a.block ≠ b.block) (v : Value) : (w.setCell a v).cell? b = w.cell? b := by
  unfold World.cell? World.setCell
  simp only [Array.getElem?_modify]
  rw [if_neg h]
theorem RS.heap {w wr w' : World} {g0 g3 g4 g5 g6 : Nat} {p : List UInt8} {V ws : List Nat} (h : RS w wr g0 g3 g4 g5 g6 p V ws) (he : w'.heap = wr.heap) (hb : Below wr.heap.size wr w') : RS w w' g0 g3 g4 g5 g6 p V ws :=
  ⟨h.h0.heap he, h.k.heap he, h.v.heap he, fun j hj => by rw [cell_heap he]; exact h.b j hj, by rw [he]; exact h.blt, h.w6.heap he, h.below.trans (hb.mono h.below.size), h.d, h.wl, h.vl⟩
theorem RS.drewN {w wr : World} {g0 g3 g4 g5 g6 : Nat} {p : List UInt8} {V ws : List Nat} (h : RS w wr g0 g3 g4 g5 g6 p V ws) (n : Nat) : RS w (wr.drewN n) g0 g3 g4 g5 g6 p V ws :=
  h.heap rfl (below_drewN (Below.refl _ _) n)
theorem RS.setw {w wr : World} {g0 g3 g4 g5 g6 : Nat} {p : List UInt8} {V ws : List Nat} (h : RS w wr g0 g3 g4 g5 g6 p V ws) (i x : Nat) : RS w (wr.setCell ⟨g6, i, none⟩ (.int .u32 (x : Int))) g0 g3 g4 g5 g6 p V (ws.set i x) := by
  have hd := h.d
  exact ⟨h.h0.setCell_ne (by show g6 ≠ _; omega) _, h.k.setCell_ne (by show g6 ≠ _; omega) _, h.v.setCell_ne (by show g6 ≠ _; omega) _, fun j hj => by rw [cell_set_ne (by show g6 ≠ g5; omega)]; exact h.b j hj, by simpa [World.setCell] using h.blt,
    h.w6.u32set i x, h.below.setCell (by show _ ≤ g6; omega) _, h.d, by rw [List.length_set]; exact h.wl, h.vl⟩
theorem RS.setv {w wr : World} {g0 g3 g4 g5 g6 : Nat} {p : List UInt8} {V ws : List Nat} (h : RS w wr g0 g3 g4 g5 g6 p V ws) (i x : Nat) : RS w (wr.setCell ⟨g4, i, none⟩ (.int .u32 (x : Int))) g0 g3 g4 g5 g6 p (V.set i x) ws := by
  have hd := h.d
  exact ⟨h.h0.setCell_ne (by show g4 ≠ _; omega) _, h.k.setCell_ne (by show g4 ≠ _; omega) _, h.v.u32set i x, fun j hj => by rw [cell_set_ne (by show g4 ≠ g5; omega)]; exact h.b j hj, by simpa [World.setCell] using h.blt,
    h.w6.setCell_ne (by show g4 ≠ _; omega) _, h.below.setCell (by show _ ≤ g4; omega) _, h.d, h.wl, by rw [List.length_set]; exact h.vl⟩
theorem wdrop_len (b : List UInt8) (ws : List Nat) (k : Nat) (h : ws.length = 64) (hk : k ≤ 64) : (wsch b k ++ ws.drop k).length = 64 := by
  rw [List.length_append, wsch_len, List.length_drop, h]; omega
theorem wdrop_set (b : List UInt8) (ws : List Nat) (k x : Nat) (h : ws.length = 64) (hk : k < 64) (hx : wsch b (k + 1) = wsch b k ++ [x]) : (wsch b k ++ ws.drop k).set k x = wsch b (k + 1) ++ ws.drop (k + 1) := by
  rw [hx, List.set_append_right _ _ (by rw [wsch_len]; exact Nat.le_refl _), wsch_len, Nat.sub_self, List.drop_eq_getElem_cons (i := k) (by omega), List.set_cons_zero, List.append_assoc]
  rfl
theorem wdrop_get (b : List UInt8) (ws : List Nat) (k j : Nat) (h : j < k) : (wsch b k ++ ws.drop k).getD j 0 = (wsch b k).getD j 0 := getD_pre _ _ _ (by rw [wsch_len]; exact h)
theorem word_val (c0 c1 c2 c3 : Nat) (h0 : c0 < 256) (h1 : c1 < 256) (h2 : c2 < 256) (h3 : c3 < 256) :
    (((((c0 : Int) * 16777216) % 4294967296 + ((c1 : Int) * 65536) % 4294967296) % 4294967296 + ((c2 : Int) * 256) % 4294967296) % 4294967296 + (c3 : Int)) % 4294967296 = (((((c0 * 256 + c1) * 256 + c2) * 256 + c3 : Nat)) : Int) := by omega
theorem take_getD (p : List UInt8) (a m i : Nat) (h : i < m) : ((p.drop a).take m).getD i 0 = p.getD (a + i) 0 := by
  rw [List.getD_eq_getElem?_getD, List.getD_eq_getElem?_getD, List.getElem?_take_of_lt h, List.getElem?_drop]
theorem word_at (p : List UInt8) (a k : Nat) (h : k < 16) :
    word ((p.drop a).take 64) k = (((p.getD (a + 4 * k) 0).toNat * 256 + (p.getD (a + 4 * k + 1) 0).toNat) * 256 + (p.getD (a + 4 * k + 2) 0).toNat) * 256 + (p.getD (a + 4 * k + 3) 0).toNat := by
  unfold word
  rw [take_getD _ _ _ _ (by omega), take_getD _ _ _ _ (by omega), take_getD _ _ _ _ (by omega), take_getD _ _ _ _ (by omega)]
  rfl
theorem sched_val (a b x y : Nat) (hx : x < 4294967296) (hy : y < 4294967296) :
    IntKind.u32.wrap (IntKind.u32.wrap (IntKind.u32.wrap ((a : Int) + bits .xor .u32 (bits .xor .u32 ((rotr x 7 : Nat) : Int) ((rotr x 18 : Nat) : Int)) ((x : Int) / 8)) + (b : Int)) + bits .xor .u32 (bits .xor .u32 ((rotr y 17 : Nat) : Int) ((rotr y 19 : Nat) : Int)) ((y : Int) / 1024))
      = (((a + b + sg0 x + sg1 y) % 4294967296 : Nat) : Int) := by
  rw [show ((x : Int) / 8) = ((x / 8 : Nat) : Int) by omega, show ((y : Int) / 1024) = ((y / 1024 : Nat) : Int) by omega,
    bx3 _ _ _ (rotr_lt _ _ hx) (rotr_lt _ _ hx) (by omega), bx3 _ _ _ (rotr_lt _ _ hy) (rotr_lt _ _ hy) (by omega)]
  simp only [IntKind.wrap_u32]
  unfold sg0 sg1
  omega
theorem out_byte (v : V8) (k : Nat) (h : k < 32) : (outL v)[k]? = some (UInt8.ofNat (v.l.getD (k / 4) 0 / 256 ^ (3 - k % 4) % 256)) := by
  have h4 : k / 4 < 8 := by omega
  have e1 : outL v = outK v (k / 4) ++ beL (v.l.getD (k / 4) 0) 4 ++ (v.l.drop (k / 4 + 1)).flatMap (beL · 4) := by
    rw [← outK_next v (k / 4) h4, outK, ← List.flatMap_append, List.take_append_drop]; rfl
  rw [e1, List.append_assoc, List.getElem?_append_right (by rw [outK_len v _ (by omega)]; omega), outK_len v _ (by omega), List.getElem?_append_left (by rw [beL_len]; omega), show k - 4 * (k / 4) = k % 4 by omega, beL_get 4 _ _ (by omega)]
end Go.Proofs.YtbpjlancjdbehaaDoor
