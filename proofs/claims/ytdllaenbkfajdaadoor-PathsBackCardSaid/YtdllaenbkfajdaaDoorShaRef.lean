/- speculumref02.Sum: what its walk needs -/
import Derived.Test.YtdllaenbkfajdaaDoorShaPad
set_option maxRecDepth 100000
namespace Go.Proofs.YtdllaenbkfajdaaDoor
open Go.RowKit Go.Spec
/-- where all lies in the reference's Sum -/
structure RS (w wr : World) (g0 g3 g4 g5 g6 : Nat) (p : List UInt8) (V ws : List Nat) : Prop where
  h0 : Blk wr g0 (hc zero32) 25
  k : Blk wr g3 (rowOf uc rK) 60
  v : Blk wr g4 (rowOf uc V) 55
  b : ∀ j, j < p.length → wr.cell? ⟨g5, j, none⟩ = some (.int .u8 ((p.getD j 0).toNat : Nat))
  blt : g5 < wr.heap.size
  w6 : Blk wr g6 (rowOf uc ws) 60
  below : Below w.heap.size w wr
  d : w.heap.size ≤ g0 ∧ g0 < g3 ∧ g3 < g4 ∧ g4 < g5 ∧ g5 < g6
  wl : ws.length = 64
  vl : V.length = 8
theorem cell_heap {w w' : World} (he : w'.heap = w.heap) (a : Addr) : w'.cell? a = w.cell? a := by unfold World.cell?; rw [he]
theorem cell_set_ne {w : World} {a b : Addr} (h : a.block ≠ b.block) (v : Value) : (w.setCell a v).cell? b = w.cell? b := by
  unfold World.cell? World.setCell
  simp only [Array.getElem?_modify]
  rw [if_neg h]
theorem RS.heap {w wr w' : World} {g0 g3 g4 g5 g6 : Nat} {p : List UInt8} {V ws : List Nat} (h : RS w wr g0 g3 g4 g5 g6 p V ws) (he : w'.heap = wr.heap) (hb : Below wr.heap.size wr w') : RS w w' g0 g3 g4 g5 g6 p V ws :=
  ⟨h.h0.heap he, h.k.heap he, h.v.heap he, fun j hj => by rw [cell_heap he]; exact h.b j hj, by rw [he]; exact h.blt, h.w6.heap he, h.below.trans (hb.mono h.below.size), h.d, h.wl, h.vl⟩
theorem RS.drewN {w wr : World} {g0 g3 g4 g5 g6 : Nat} {p : List UInt8} {V ws : List Nat} (h : RS w wr g0 g3 g4 g5 g6 p V ws) (n : Nat) : RS w (wr.drewN n) g0 g3 g4 g5 g6 p V ws :=
  h.heap rfl (below_drewN (Below.refl _ _) n)
theorem RS.setw {w wr : World} {g0 g3 g4 g5 g6 : Nat} {p : List UInt8} {V ws : List Nat} (h : RS w wr g0 g3 g4 g5 g6 p V ws) (i x : Nat) : RS w (wr.setCell ⟨g6, i, none⟩ (.int .u32 (x : Int))) g0 g3 g4 g5 g6 p V (ws.set i x) := by
  have hd := h.d
  exact ⟨h.h0.setCell_ne (by show g6 ≠ _; omega) _, h.k.setCell_ne (by show g6 ≠ _; omega) _, h.v.setCell_ne (by show g6 ≠ _; omega) _, fun j hj => by rw [cell_set_ne (by show g6 ≠ g5; omega)]; exact h.b j hj, by simpa [World.setCell] using h.blt,
    h.w6.u32set i x, h.below.setCell (by show _ ≤ g6; omega) _, h.d, by rw [List.length_set]; exact h.wl, h.vl⟩
theorem RS.setv {w wr : World} {g0 g3 g4 g5 g6 : Nat} {p : List UInt8} {V ws : List Nat} (h : RS w wr g0 g3 g4 g5 g6 p V ws) (i x : Nat) : RS w (wr.setCell ⟨g4, i, none⟩ (.int .u32 (x : Int))) g0 g3 g4 g5 g6 p (V.set i x) ws := by
  have hd := h.d
  exact ⟨h.h0.setCell_ne (by show g4 ≠ _; omega) _, h.k.setCell_ne (by show g4 ≠ _; omega) _, h.v.u32set i x, fun j hj => by rw [cell_set_ne (by show g4 ≠ g5; omega)]; exact h.b j hj, by simpa [World.setCell] using h.blt,
    h.w6.setCell_ne (by show g4 ≠ _; omega) _, h.below.setCell (by show _ ≤ g4; omega) _, h.d, h.wl, by rw [List.length_set]; exact h.vl⟩
theorem wdrop_len (b : List UInt8) (ws : List Nat) (k : Nat) (h : ws.length = 64) (hk : k ≤ 64) : (wsch b k ++ ws.drop k).length = 64 := by
  rw [List.length_append, wsch_len, List.length_drop, h]; omega
theorem wdrop_set (b : List UInt8) (ws : List Nat) (k x : Nat) (h : ws.length = 64) (hk : k < 64) (hx : wsch b (k + 1) = wsch b k ++ [x]) : (wsch b k ++ ws.drop k).set k x = wsch b (k + 1) ++ ws.drop (k + 1) := by
  rw [hx, List.set_append_right _ _ (by rw [wsch_len]; exact Nat.le_refl _), wsch_len, Nat.sub_self, List.drop_eq_getElem_cons (i := k) (by omega), List.set_cons_zero, List.append_assoc]
  rfl
theorem wdrop_get (b : List UInt8) (ws : List Nat) (k j : Nat) (h : j < k) : (wsch b k ++ ws.drop k).getD j 0 = (wsch b k).getD j 0 := getD_pre _ _ _ (by rw [wsch_len]; exact h)
theorem word_val (c0 c1 c2 c3 : Nat) (h0 : c0 < 256) (h1 : c1 < 256) (h2 : c2 < 256) (h3 : c3 < 256) :
    (((((c0 : Int) * 16777216) % 4294967296 + ((c1 : Int) * 65536) % 4294967296) % 4294967296 + ((c2 : Int) * 256) % 4294967296) % 4294967296 + (c3 : Int)) % 4294967296 = (((((c0 * 256 + c1) * 256 + c2) * 256 + c3 : Nat)) : Int) := by omega
theorem take_getD (p : List UInt8) (a m i : Nat) (h : i < m) : ((p.drop a).take m).getD i 0 = p.getD (a + i) 0 := by
  rw [List.getD_eq_getElem?_getD, List.getD_eq_getElem?_getD, List.getElem?_take_of_lt h, List.getElem?_drop]
theorem word_at (p : List UInt8) (a k : Nat) (h : k < 16) :
    word ((p.drop a).take 64) k = (((p.getD (a + 4 * k) 0).toNat * 256 + (p.getD (a + 4 * k + 1) 0).toNat) * 256 + (p.getD (a + 4 * k + 2) 0).toNat) * 256 + (p.getD (a + 4 * k + 3) 0).toNat := by
  unfold word
  rw [take_getD _ _ _ _ (by omega), take_getD _ _ _ _ (by omega), take_getD _ _ _ _ (by omega), take_getD _ _ _ _ (by omega)]
  rfl
theorem sched_val (a b x y : Nat) (hx : x < 4294967296) (hy : y < 4294967296) :
    IntKind.u32.wrap (IntKind.u32.wrap (IntKind.u32.wrap ((a : Int) + bits .xor .u32 (bits .xor .u32 ((rotr x 7 : Nat) : Int) ((rotr x 18 : Nat) : Int)) ((x : Int) / 8)) + (b : Int)) + bits .xor .u32 (bits .xor .u32 ((rotr y 17 : Nat) : Int) ((rotr y 19 : Nat) : Int)) ((y : Int) / 1024))
      = (((a + b + sg0 x + sg1 y) % 4294967296 : Nat) : Int) := by
  rw [show ((x : Int) / 8) = ((x / 8 : Nat) : Int) by omega, show ((y : Int) / 1024) = ((y / 1024 : Nat) : Int) by omega,
    bx3 _ _ _ (rotr_lt _ _ hx) (rotr_lt _ _ hx) (by omega), bx3 _ _ _ (rotr_lt _ _ hy) (rotr_lt _ _ hy) (by omega)]
  simp only [IntKind.wrap_u32]
  unfold sg0 sg1
  omega
theorem out_byte (v : V8) (k : Nat) (h : k < 32) : (outL v)[k]? = some (UInt8.ofNat (v.l.getD (k / 4) 0 / 256 ^ (3 - k % 4) % 256)) := by
  have h4 : k / 4 < 8 := by omega
  have e1 : outL v = outK v (k / 4) ++ beL (v.l.getD (k / 4) 0) 4 ++ (v.l.drop (k / 4 + 1)).flatMap (beL · 4) := by
    rw [← outK_next v (k / 4) h4, outK, ← List.flatMap_append, List.take_append_drop]; rfl
  rw [e1, List.append_assoc, List.getElem?_append_right (by rw [outK_len v _ (by omega)]; omega), outK_len v _ (by omega), List.getElem?_append_left (by rw [beL_len]; omega), show k - 4 * (k / 4) = k % 4 by omega, beL_get 4 _ _ (by omega)]
end Go.Proofs.YtdllaenbkfajdaaDoor
