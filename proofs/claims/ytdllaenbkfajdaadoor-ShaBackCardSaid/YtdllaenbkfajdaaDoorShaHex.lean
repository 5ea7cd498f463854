/- sha.Hex, speculumref02.Hex -/
import Derived.Test.YtdllaenbkfajdaaDoorBuilder2
import Derived.Test.YtdllaenbkfajdaaDoorShaHexLaw
import Derived.Test.YtdllaenbkfajdaaDoorShaSum
set_option maxRecDepth 100000
namespace Go.Proofs.YtdllaenbkfajdaaDoor
open Go.RowKit Go.Spec
theorem dig_index (n : Nat) (x : Int) (hx : x = n) (hn : n < 16) (w : World) :
    (Instr.index 9 (.string ⟨#[48, 49, 50, 51, 52, 53, 54, 55, 56, 57, 97, 98, 99, 100, 101, 102]⟩) (.int .u8 x)).run Tryd.prog w = .ok (.int .u8 ((dgt n).toNat : Int)) w := by
  subst hx
  have h16 : ∀ k : Fin 16, ((⟨#[48, 49, 50, 51, 52, 53, 54, 55, 56, 57, 97, 98, 99, 100, 101, 102]⟩ : ByteArray)[k.val]?) = some (dgt k.val) := by decide +kernel
  have hk := h16 ⟨n, hn⟩
  simp only at hk
  simp only [Instr.index, Sem.run_bind, asIntOf, Sem.run_pure, Result.andThen_ok, run_underlying Tryd.underlying9, Int.toNat_natCast]
  rw [if_pos (by omega), hk]
  rfl
theorem hexL_snoc (l : List UInt8) (c : UInt8) : hexL (l ++ [c]) = hexL l ++ [dgt (c.toNat / 16)] ++ [dgt (c.toNat % 16)] := by
  unfold hexL; rw [List.flatMap_append]; simp
theorem and15 (c : UInt8) : bits .and .u8 (c.toNat : Int) 15 = (c.toNat : Int) % 16 := by
  have := bits_mask .u8 8 (by decide) wraps_u8 4 (by decide) (c.toNat : Int) (by omega) (by have := c.toNat_lt; omega)
  simpa using this
set_option maxHeartbeats 1000000 in
theorem hex_any (h : List UInt8) (w : World) (hh : h.length = 32) :
    Calls Tryd.prog 27 #[hv h] w fun e w' => e = .returned (sv (hexL h)) ∧ Below w.heap.size w w' := by
  have Hs := hid (show (Tryd.prog.info? 25).map (·.size) = some (hc h).size by rw [hc_size, hh]; exact Tryd.sizeHash)
  have Hh := hid hh
  clear hh
  go_enter Tryd.func27, Tryd.ntmps27
  go_wp2_with ((with_reducible show wpList _ _ _ ({ dst := _, op := Op.load 25 _, type := _, pos := _, after := _, guard := _ } :: _) _ _); refine wpList_load_blk rfl 25 _ rfl w.heap.size rfl _ (hc h) _ ((Blk.new w _ _).alloc _) Tryd.underlying25 rfl Hs.out ?_)
  have hB0 : Bld (w.heap.size + 1) none [] ((w.alloc (.cells (hc h) 25)).alloc (.cells #[.pointer none, .slice none 0 0] 68)) := by
    have := IsB.fresh 68 5 (w.alloc (.cells (hc h) 25))
    simpa using this
  have hb0 : Below w.heap.size w ((w.alloc (.cells (hc h) 25)).alloc (.cells #[.pointer none, .slice none 0 0] 68)) := ((Below.refl _ w).alloc (Nat.le_refl _) _).alloc (by simp) _
  generalize ((w.alloc (.cells (hc h) 25)).alloc (.cells #[.pointer none, .slice none 0 0] 68)) = w0 at *
  obtain ⟨g, hg⟩ : ∃ g, w.heap.size + 1 = g := ⟨_, rfl⟩
  rw [hg] at hB0
  simp only [hg]
  have Hg := hid hg; clear hg
  go_loopw [7] (fun i wr => ∃ (k : Nat) (r : Option Nat), k ≤ 32 ∧ i = .int .i64 (k : Int) ∧ Bld g r (hexL (h.take k)) wr ∧ Below w.heap.size w wr) (fun i _ => 32 - (intOf i).toNat)
  case atStart => exact ⟨0, none, by omega, rfl, hB0, hb0⟩
  case round =>
    obtain ⟨k, r, hk, rfl, hB, hb⟩ := hrel
    clear hB0 hb0
    by_cases hlt : k < 32
    · have hkk : (k : Int) < 32 := by omega
      have hkl : k < h.length := by rw [Hh.out]; exact hlt
      have hix := fun (w : World) => run_index_agg (P := Tryd.prog) 25 5 32 (hc h) k (.int .u8 (h[k].toNat : Int)) _ Tryd.underlying25 Tryd.underlying5 rfl Tryd.sizeU8 hlt (by rw [hc_get h k hkl]; rfl) w
      have Hnext := hid (show hexL (h.take (k + 1)) = hexL (h.take k) ++ [dgt (h[k].toNat / 16)] ++ [dgt (h[k].toNat % 16)] by rw [List.take_succ_eq_append_getElem hkl, hexL_snoc])
      have Hlen := hid (show (hexL (h.take k)).length ≤ 64 by rw [hexL_len, List.length_take]; omega)
      have hclt := h[k].toNat_lt
      have hand := and15 h[k]
      have hd1 := fun (w : World) => dig_index (h[k].toNat / 16) ((h[k].toNat : Int) / 16) (by omega) (by omega) w
      have hd2 := fun (w : World) => dig_index (h[k].toNat % 16) ((h[k].toNat : Int) % 16) (by omega) (by omega) w
      have HB := hid hB
      generalize h[k] = cc at *
      clear hB hkl
      generalize cc.toNat = c at *
      generalize dgt (c / 16) = d1 at *
      generalize dgt (c % 16) = d2 at *
      generalize hexL (h.take k) = L at *
      go_wp2_with fail
      refine (wb_any g r L d1 _ HB.out (by have := Hlen.out; omega)).mono ?_
      rintro e w1 ⟨rfl, hw1⟩
      obtain ⟨r1, hB1, hr1⟩ := hw1.ex
      go_wp2_with fail
      refine (wb_any g r1 (L ++ [d1]) d2 _ hB1 (by have := Hlen.out; simp; omega)).mono ?_
      rintro e w2 ⟨rfl, hw2⟩
      obtain ⟨r2, hB2, hr2⟩ := hw2.ex
      go_wp2
      go_roundw
      case rel =>
        exact ⟨k + 1, r2, by omega, by go_num, by rw [Hnext.out]; exact hB2, (hb.trans ((hw1.below HB.out).mono (by have := Hg.out; omega))).trans ((hw2.below hB1).mono (by have := Hg.out; omega))⟩
      case measure => simp [intOf]; omega
    · have hk32 : h.take k = h := List.take_of_length_le (by rw [Hh.out]; omega)
      rw [hk32] at hB
      clear hk32
      have HB := hid hB; clear hB
      have Hne := hid (show hexL h ≠ [] by intro h0; have := hexL_len h; rw [h0, Hh.out] at this; simp at this)
      go_wp2_with (go_at_call 46; refine (bstring_any _ _ _ _ HB.out Hne.out).mono ?_; rintro e w4 ⟨rfl, hw4⟩)
      go_ret
      exact ⟨rfl, hb.trans (hw4.below hb.size (fun j hj => by have := HB.out.row j hj; have := Hg.out; omega))⟩
theorem dig_slice (a : Nat) (ha : a < 16) (w : World) :
    (Instr.slice 9 (.string ⟨#[48, 49, 50, 51, 52, 53, 54, 55, 56, 57, 97, 98, 99, 100, 101, 102]⟩) (some (.int .u8 (a : Int))) (some (.int .u8 ((a + 1 : Nat) : Int))) none).run Tryd.prog w = .ok (sv [dgt a]) w := by
  have h16 : ∀ k : Fin 16, ((⟨#[48, 49, 50, 51, 52, 53, 54, 55, 56, 57, 97, 98, 99, 100, 101, 102]⟩ : ByteArray).extract k.val (k.val + 1)) = mkS [dgt k.val] := by decide +kernel
  have hk := h16 ⟨a, ha⟩
  simp only at hk
  have hz : (⟨#[48, 49, 50, 51, 52, 53, 54, 55, 56, 57, 97, 98, 99, 100, 101, 102]⟩ : ByteArray).size = 16 := by decide
  have c1 : (0 : Int) ≤ ((a + 1 : Nat) : Int) ∧ ((a + 1 : Nat) : Int) ≤ ((16 : Nat) : Int) := by omega
  have c2 : (0 : Int) ≤ (a : Int) ∧ (a : Int) ≤ (((a + 1 : Nat) : Int).toNat : Int) := by omega
  simp only [Instr.slice, Sem.run_bind, run_underlying Tryd.underlying9, Result.andThen_ok, Instr.sliceBounds, Instr.sliceBound, asIntOf, Sem.run_pure, hz, Option.isSome_none, Bool.false_eq_true, if_false]
  rw [if_pos c1]
  simp only [Sem.run_pure, Result.andThen_ok]
  rw [if_pos c2]
  simp only [Sem.run_pure, Result.andThen_ok, Int.toNat_natCast, hk]
set_option maxHeartbeats 1000000 in
theorem rhex_any (h : List UInt8) (w : World) (hh : h.length = 32) :
    Calls Tryd.prog 28 #[hv h] w fun e w' => e = .returned (sv (hexL h)) ∧ Below w.heap.size w w' := by
  have Hh := hid hh
  clear hh
  go_enter Tryd.func28, Tryd.ntmps28
  go_wp2
  have hB0 := Blk.new w (hc h) 25
  have hb0 : Below w.heap.size w (w.alloc (.cells (hc h) 25)) := (Below.refl _ w).alloc (Nat.le_refl _) _
  generalize w.alloc (.cells (hc h) 25) = w0 at *
  go_loopw [4, 5] (fun s i wr => ∃ k : Nat, k ≤ 32 ∧ i = .int .i64 (k : Int) ∧ s = sv (hexL (h.take k)) ∧ Blk wr w.heap.size (hc h) 25 ∧ Below w.heap.size w wr) (fun _ i _ => 32 - (intOf i).toNat)
  case atStart => exact ⟨0, by omega, rfl, rfl, hB0, hb0⟩
  case round =>
    obtain ⟨k, hk, rfl, rfl, hB, hb⟩ := hrel
    clear hB0 hb0
    by_cases hlt : k < 32
    · have hkk : (k : Int) < 32 := by omega
      have hkl : k < h.length := by rw [Hh.out]; exact hlt
      have Hnext := hid (show hexL (h.take (k + 1)) = hexL (h.take k) ++ [dgt (h[k].toNat / 16)] ++ [dgt (h[k].toNat % 16)] by rw [List.take_succ_eq_append_getElem hkl, hexL_snoc])
      have Hlen := hid (show (hexL (h.take k)).length ≤ 64 by rw [hexL_len, List.length_take]; omega)
      have hLl : (hexL (h.take k)).length ≤ 64 := Hlen.out
      have hclt := h[k].toNat_lt
      have Hcell := hid (show h.getD k 0 = h[k] by rw [List.getD_eq_getElem?_getD, List.getElem?_eq_getElem hkl]; rfl)
      have HK := hid hkl
      generalize h[k] = cc at *
      clear hkl
      generalize hc0 : cc.toNat = c at *
      have Hc0 := hid hc0; clear hc0
      obtain ⟨a, ha⟩ : ∃ a, c / 16 = a := ⟨_, rfl⟩
      obtain ⟨b, hb'⟩ : ∃ b, c % 16 = b := ⟨_, rfl⟩
      have e1 : (c : Int) / 16 = (a : Int) := by omega
      have e2 : (c : Int) % 16 = (b : Int) := by omega
      have e3 : Int.tdiv (c : Int) 16 = (a : Int) := by rw [Int.tdiv_eq_ediv_of_nonneg (by omega)]; exact e1
      have e4 : Int.tmod (c : Int) 16 = (b : Int) := by rw [Int.tmod_eq_emod_of_nonneg (by omega)]; exact e2
      have ha16 : a < 16 := by omega
      have hb16 : b < 16 := by omega
      have e5 : IntKind.u8.wrap ((a : Int) + 1) = ((a + 1 : Nat) : Int) := by rw [IntWalk.u8_in _ (by omega)]; omega
      have e6 : IntKind.u8.wrap ((b : Int) + 1) = ((b + 1 : Nat) : Int) := by rw [IntWalk.u8_in _ (by omega)]; omega
      have e7 : IntKind.u8.wrap (a : Int) = (a : Int) := IntWalk.u8_in _ (by omega)
      have hs1 := dig_slice a ha16
      have hs2 := dig_slice b hb16
      rw [ha, hb'] at Hnext
      obtain ⟨a1, ha1⟩ : ∃ x, a + 1 = x := ⟨_, rfl⟩
      obtain ⟨b1, hb1'⟩ : ∃ x, b + 1 = x := ⟨_, rfl⟩
      rw [ha1] at e5 hs1
      rw [hb1'] at e6 hs2
      clear ha hb' ha1 hb1'
      generalize hexL (h.take k) = L at *
      go_wp2_with fail
      have q1 : ¬ (9223372036854775807 < L.length + 1) := by omega
      have q2 : ¬ (9223372036854775807 < L.length + 1 + 1) := by omega
      refine wp_region_tail 25 (by kernel_rfl) (by kernel_rfl) ?_
      intro w1 he1 hb1
      simp only [List.take_succ_cons, List.take_zero, List.drop_succ_cons, List.drop_zero]
      have hB1 := hB.heap (w' := w1) he1
      have c1 := hB1.u8 k HK.out
      rw [Hcell.out, Hc0.out] at c1
      repeat (first | still_step)
      refine wpStill_nil ?_
      go_wp2
      go_roundw
      case rel =>
        exact ⟨k + 1, by omega, by go_num, by rw [Hnext.out]; simp [go_sem], hB1, hb.trans (hb1.mono hb.size)⟩
      case measure => simp [intOf]; omega
    · have hk32 : h.take k = h := List.take_of_length_le (by rw [Hh.out]; omega)
      rw [hk32]
      clear hk32
      go_wp2
      go_ret
      exact ⟨rfl, hb⟩
end Go.Proofs.YtdllaenbkfajdaaDoor
