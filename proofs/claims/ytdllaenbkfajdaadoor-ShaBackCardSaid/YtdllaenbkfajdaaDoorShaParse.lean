/- sha.Parse, speculumref02.Parse -/
import Derived.Test.YtdllaenbkfajdaaDoorShaHex
set_option maxRecDepth 100000
namespace Go.Proofs.YtdllaenbkfajdaaDoor
open Go.RowKit Go.Spec
theorem idx_dig (c : UInt8) : Lib.indexByte digits c = match dval c with | some n => (n : Int) | none => -1 := by
  have h : ∀ k : Fin 256, Lib.indexByte digits (UInt8.ofNat k.val) = match dval (UInt8.ofNat k.val) with | some n => (n : Int) | none => -1 := by decide +kernel
  have := h ⟨c.toNat, c.toNat_lt⟩
  simpa using this
theorem idx_any (c : UInt8) (w : World) :
    Calls Tryd.prog 43 #[.string ⟨#[48, 49, 50, 51, 52, 53, 54, 55, 56, 57, 97, 98, 99, 100, 101, 102]⟩, .int .u8 (c.toNat : Int)] w fun e w' => e = .returned (.int .i64 (match dval c with | some n => (n : Int) | none => -1)) ∧ w = w' :=
  (Tryd.strings_IndexByte _ _ w).mono fun e w' ⟨h1, h2⟩ => ⟨by
    rw [h1, ← idx_dig c]
    have : ((c.toNat : Int).toNat.toUInt8) = c := by simp
    rw [this]; rfl, h2.symm⟩
theorem idx_yes (c : UInt8) (n : Nat) (h : dval c = some n) (w : World) :
    Calls Tryd.prog 43 #[.string ⟨#[48, 49, 50, 51, 52, 53, 54, 55, 56, 57, 97, 98, 99, 100, 101, 102]⟩, .int .u8 (c.toNat : Int)] w fun e w' => e = .returned (.int .i64 (n : Int)) ∧ w = w' :=
  (idx_any c w).mono fun _ _ ⟨h1, h2⟩ => ⟨by rw [h1, h], h2⟩
theorem idx_no (c : UInt8) (h : dval c = none) (w : World) :
    Calls Tryd.prog 43 #[.string ⟨#[48, 49, 50, 51, 52, 53, 54, 55, 56, 57, 97, 98, 99, 100, 101, 102]⟩, .int .u8 (c.toNat : Int)] w fun e w' => e = .returned (.int .i64 (-1)) ∧ w = w' :=
  (idx_any c w).mono fun _ _ ⟨h1, h2⟩ => ⟨by rw [h1, h], h2⟩
def dv (c : UInt8) : Nat := (dval c).getD 0
theorem dv_lt (c : UInt8) : dv c < 16 := by
  unfold dv
  cases h : dval c with
  | none => simp
  | some n => exact dval_lt c n h
/-- what stands in the hash behind i digits -/
def part (s : List UInt8) (i : Nat) : List UInt8 := (List.range 32).map fun j => if 2 * j + 1 < i then byt (dv (s.getD (2 * j) 0)) (dv (s.getD (2 * j + 1) 0)) else if 2 * j < i then UInt8.ofNat (dv (s.getD (2 * j) 0)) else 0
theorem part_len (s : List UInt8) (i : Nat) : (part s i).length = 32 := by simp [part]
theorem part_zero (s : List UInt8) : part s 0 = zero32 := by
  unfold part zero32
  rw [List.eq_replicate_iff]
  simp
theorem part_get (s : List UInt8) (i j : Nat) (h : j < 32) : (part s i).getD j 0 = if 2 * j + 1 < i then byt (dv (s.getD (2 * j) 0)) (dv (s.getD (2 * j + 1) 0)) else if 2 * j < i then UInt8.ofNat (dv (s.getD (2 * j) 0)) else 0 := by
  unfold part
  rw [List.getD_eq_getElem?_getD, List.getElem?_map, List.getElem?_range h]; rfl
theorem part_set (s : List UInt8) (i : Nat) (x : UInt8) (hx : x = (part s (i + 1)).getD (i / 2) 0) : (part s i).set (i / 2) x = part s (i + 1) := by
  apply List.ext_getElem
  · simp [part_len]
  · intro j h1 h2
    rw [part_len] at h2
    have e1 := part_get s i j h2
    have e2 := part_get s (i + 1) j h2
    rw [List.getD_eq_getElem?_getD, List.getElem?_eq_getElem (by rw [part_len]; exact h2)] at e1 e2
    simp only [Option.getD_some] at e1 e2
    by_cases hj : i / 2 = j
    · subst hj
      rw [List.getElem_set_self, hx, List.getD_eq_getElem?_getD, List.getElem?_eq_getElem (by rw [part_len]; exact h2)]
      rfl
    · rw [List.getElem_set_ne hj, e1, e2]
      simp only [show (2 * j + 1 < i + 1) ↔ (2 * j + 1 < i) by omega, show (2 * j < i + 1) ↔ (2 * j < i) by omega]
theorem unhex_get : ∀ (n : Nat) (s r : List UInt8), s.length = 2 * n → unhex s = some r → ∀ j, j < n → r[j]? = some (byt (dv (s.getD (2 * j) 0)) (dv (s.getD (2 * j + 1) 0)))
  | 0, _, _, _, _ => fun j h => by omega
  | n + 1, s, r, hs, h => fun j hj => by
    match s, hs with
    | a :: b :: l, hs =>
      simp only [List.length_cons] at hs
      simp only [unhex] at h
      cases hx : dval a <;> cases hy : dval b <;> cases hz : unhex l <;> simp [hx, hy, hz] at h
      subst h
      rcases j with _ | j
      · simp [dv, hx, hy]
      · have := unhex_get n l _ (by omega) hz j (by omega)
        simpa [Nat.mul_add] using this
    | [a], hs => simp at hs; omega
    | [], hs => simp at hs
theorem unhex_iff : ∀ (n : Nat) (s : List UInt8), s.length = 2 * n → ((∃ r, unhex s = some r) ↔ ∀ c ∈ s, (dval c).isSome = true)
  | 0, s, hs => by
    have : s = [] := List.eq_nil_of_length_eq_zero (by omega)
    subst this; simp [unhex]
  | n + 1, s, hs => by
    match s, hs with
    | a :: b :: l, hs =>
      simp only [List.length_cons] at hs
      have ih := unhex_iff n l (by omega)
      simp only [unhex]
      cases hx : dval a <;> cases hy : dval b <;> cases hz : unhex l <;> simp_all
    | [a], hs => simp at hs; omega
    | [], hs => simp at hs
theorem unhex_bad (n : Nat) (s : List UInt8) (hs : s.length = 2 * n) (i : Nat) (hi : i < s.length) (hb : dval s[i] = none) : unhex s = none := by
  cases h : unhex s with
  | none => rfl
  | some r =>
    have := (unhex_iff n s hs).1 ⟨r, h⟩ s[i] (List.getElem_mem hi)
    rw [hb] at this; cases this
theorem unhex_all (s : List UInt8) (hs : s.length = 64) (h : ∀ c ∈ s, (dval c).isSome = true) : unhex s = some (part s 64) := by
  obtain ⟨r, hr⟩ := (unhex_iff 32 s (by omega)).2 h
  rw [hr]
  congr 1
  have hl := unhex_len 32 s r (by omega) hr
  apply List.ext_getElem
  · rw [hl, part_len]
  · intro j h1 h2
    rw [part_len] at h2
    have e1 := unhex_get 32 s r (by omega) hr j h2
    have e2 := part_get s 64 j h2
    rw [List.getElem?_eq_getElem h1] at e1
    rw [List.getD_eq_getElem?_getD, List.getElem?_eq_getElem (by rw [part_len]; exact h2), if_pos (by omega)] at e2
    simp only [Option.getD_some] at e2
    injection e1 with e1
    rw [e1, e2]
theorem or16 (x n : Nat) (hx : x < 16) (hn : n < 16) : bits .or .u8 ((x : Int) * 16) (n : Int) = ((byt x n).toNat : Int) := by
  have h : ∀ x n : Fin 16, bits .or .u8 ((x.val : Int) * 16) (n.val : Int) = ((byt x.val n.val).toNat : Int) := by decide +kernel
  exact h ⟨x, hx⟩ ⟨n, hn⟩
def prH (s : List UInt8) : List UInt8 := (parseL s).getD zero32
def prB (s : List UInt8) : Bool := (parseL s).isSome
theorem prH_len (s : List UInt8) : (prH s).length = 32 := by
  unfold prH parseL
  by_cases h : s.length = 64
  · rw [if_pos h]
    cases hr : unhex s with
    | none => rfl
    | some r => exact unhex_len 32 s r (by omega) hr
  · rw [if_neg h]; rfl
theorem Tryd.zeroHash (w : World) : (Instr.build 25 #[]).run Tryd.prog w = .ok (hv zero32) w := by kernel_rfl
theorem part_step (s : List UInt8) (k : Nat) (hk : k < 64) : ∃ x, x < 16 ∧ ((part s k).getD (k / 2) 0).toNat = x ∧ byt x (dv (s.getD k 0)) = (part s (k + 1)).getD (k / 2) 0 := by
  have h2 : k / 2 < 32 := by omega
  rw [part_get s k _ h2, part_get s (k + 1) _ h2]
  by_cases ho : k % 2 = 0
  · have e : 2 * (k / 2) = k := by omega
    rw [e, if_neg (by omega), if_neg (by omega), if_neg (by omega), if_pos (by omega)]
    refine ⟨0, by omega, rfl, ?_⟩
    unfold byt
    rw [Nat.mul_zero, Nat.zero_add]
  · have e : 2 * (k / 2) + 1 = k := by omega
    rw [e, if_neg (by omega), if_pos (by omega), if_pos (by omega)]
    have hd := dv_lt (s.getD (2 * (k / 2)) 0)
    exact ⟨dv (s.getD (2 * (k / 2)) 0), hd, UInt8.toNat_ofNat_of_lt' (Nat.lt_trans hd (by decide)), rfl⟩
set_option maxHeartbeats 2000000 in
theorem parse_any (s : List UInt8) (w : World) (_hl : s.length ≤ 1000000000) :
    Calls Tryd.prog 25 #[sv s] w fun e w' => e = .returned (.tuple #[hv (prH s), .bool (prB s)]) ∧ Below w.heap.size w w' := by
  have Hsz := hid (show (Tryd.prog.info? 25).map (·.size) = some (hc zero32).size by rw [hc_size]; exact Tryd.sizeHash)
  by_cases h64 : s.length = 64
  · have Hp := hid (show prH s = (unhex s).getD zero32 ∧ prB s = (unhex s).isSome by unfold prH prB parseL; rw [if_pos h64]; exact ⟨rfl, rfl⟩)
    have ht : (((s.length : Int)) != 64) = false := by simp; omega
    have H64 := hid h64
    clear h64
    go_enter Tryd.func25, Tryd.ntmps25
    go_wp2
    have hB0 : Blk ((w.alloc (.cells (hc zero32) 25)).alloc (.cells (hc zero32) 25)) w.heap.size (hc zero32) 25 := (Blk.new w _ _).alloc _
    have hB1 : Blk ((w.alloc (.cells (hc zero32) 25)).alloc (.cells (hc zero32) 25)) (w.heap.size + 1) (hc zero32) 25 := Blk.new' _ _ _ (by simp)
    have hb0 : Below w.heap.size w ((w.alloc (.cells (hc zero32) 25)).alloc (.cells (hc zero32) 25)) := ((Below.refl _ w).alloc (Nat.le_refl _) _).alloc (by simp) _
    obtain ⟨g1, hg1⟩ : ∃ g, w.heap.size + 1 = g := ⟨_, rfl⟩
    rw [hg1] at hB1
    simp only [hg1]
    have Hg1 := hid hg1; clear hg1
    go_loopw [13] (fun i wr => ∃ k : Nat, k ≤ 64 ∧ i = .int .i64 (k : Int) ∧ (∀ j (h : j < s.length), j < k → (dval s[j]).isSome = true) ∧ Blk wr g1 (hc (part s k)) 25 ∧ Blk wr w.heap.size (hc zero32) 25 ∧ Below w.heap.size w wr) (fun i _ => 64 - (intOf i).toNat)
    case atStart => exact ⟨0, by omega, rfl, fun _ _ h => by omega, by rw [part_zero]; exact hB1, hB0, hb0⟩
    case round =>
      obtain ⟨k, hk, rfl, hall, hB, h0, hb⟩ := hrel
      clear hB0 hB1 hb0
      have Hall := hid hall; clear hall
      have hg0 : w.heap.size < g1 := by have := Hg1.out; omega
      have hsl : s.length = 64 := H64.out
      by_cases hlt : k < 64
      · have hks : k < s.length := by omega
        have hd1 : decide (k < s.length) = true := by simpa using hks
        have hgd : s.getD k 0 = s[k] := by rw [List.getD_eq_getElem?_getD, List.getElem?_eq_getElem hks]; rfl
        have hge : s[k]?.getD 0 = s[k] := by rw [List.getElem?_eq_getElem hks]; rfl
        have Hsl := hid hsl; clear hsl
        cases hv : dval s[k] with
        | none =>
          have Hbad := hid (unhex_bad 32 s (by have := H64.out; omega) k hks hv)
          generalize hcc : s[k] = c at *
          have Hv := hid hv; clear hv
          have Hge := hid hge; have Hgd := hid hgd
          clear hgd hge
          have hidx : s[k]?.getD 0 = c := Hge.out
          go_wp2_with fail
          refine (idx_no c Hv.out _).mono ?_
          rintro e w' ⟨rfl, rfl⟩
          go_wp2_with (first
            | ((with_reducible show wpList _ _ _ ({ dst := _, op := Op.build _ _, type := _, pos := _, after := _, guard := _ } :: _) _ _); refine wpList_build0 rfl 25 rfl (hv zero32) (Tryd.zeroHash _) ?_)
            | ((with_reducible show wpList _ _ _ ({ dst := _, op := Op.store _ _ _, type := _, pos := _, after := _, guard := _ } :: _) _ _); refine wpList_store_blk rfl 25 _ _ rfl w.heap.size rfl (hc zero32) rfl _ _ h0 rfl Hsz.out (hc_row_one _) ?_))
          have HB2 := h0.setRow (cs' := hc zero32)
          refine bodyPost_ret (results_cell2 rfl _ w.heap.size 25 (hc zero32) (0, 0) _ rfl HB2 Tryd.underlying25 rfl Hsz.out) rfl ⟨?_, hb.setRow (Nat.le_refl _) _⟩
          rw [Hp.out.1, Hp.out.2, Hbad.out]; rfl
        | some n =>
          have Hall2 := hid (show ∀ j (h : j < s.length), j < k + 1 → (dval s[j]).isSome = true from fun j h hj => by
            by_cases hjk : j = k
            · subst hjk; rw [hv]; rfl
            · exact Hall.out j h (by omega))
          have hn16 := dval_lt _ n hv
          obtain ⟨x, hx16, hx, hby⟩ := part_step s k hlt
          rw [hgd, show dv s[k] = n by unfold dv; rw [hv]; rfl] at hby
          have Hby := hid hby; clear hby
          obtain ⟨q, hq⟩ : ∃ q, k / 2 = q := ⟨_, rfl⟩
          rw [hq] at Hby hx
          have e1 : (k : Int) / 2 = (q : Int) := by omega
          have hq32 : (q : Int) < 32 := by omega
          have c1 := hB.u8 q (by rw [part_len]; omega)
          rw [hx] at c1
          have f1 := hB.free q
          have Hset := hid (part_set s k (byt x n) (by rw [hq]; exact Hby.out))
          rw [hq] at Hset
          have Hfin := hid (hB.u8set q (byt x n))
          have hor := or16 x n hx16 hn16
          have Hor := hid hor
          generalize hcc : s[k] = c at *
          have Hv := hid hv; clear hv
          have Hge := hid hge; have Hgd := hid hgd
          clear hgd hge hx hq
          have hidx : s[k]?.getD 0 = c := Hge.out
          generalize hbb : byt x n = bb at *
          have Hbb := hid hbb; clear hbb
          go_wp2_with fail
          refine (idx_yes c n Hv.out _).mono ?_
          rintro e w' ⟨rfl, rfl⟩
          go_wp2
          go_roundw
          case rel =>
            refine ⟨k + 1, by omega, by go_num, Hall2.out, ?_, h0.setCell_ne (by show g1 ≠ _; omega) _, hb.setCell (by show _ ≤ g1; omega) _⟩
            have hh := Hfin.out
            rw [Hset.out] at hh
            exact hh
          case measure => simp [intOf]; omega
      · have hk64 : k = 64 := by omega
        have hd1 : decide (k < s.length) = false := by simp; omega
        have Hun := hid (unhex_all s hsl (fun c hc => by
          obtain ⟨j, hj, rfl⟩ := List.getElem_of_mem hc
          exact Hall.out j hj (by omega)))
        have Hs2 := hid (show (Tryd.prog.info? 25).map (·.size) = some (hc (part s 64)).size by rw [hc_size, part_len]; exact Tryd.sizeHash)
        have Hl2 := hid (show (hc (part s 64)).size = (hc zero32).size by rw [hc_size, part_len]; rfl)
        rw [hk64] at hB
        clear hk hlt hk64 hsl
        have HB := hid hB; clear hB
        go_wp2_with (first
          | ((with_reducible show wpList _ _ _ ({ dst := _, op := Op.load 25 _, type := _, pos := _, after := _, guard := _ } :: _) _ _); refine wpList_load_blk rfl 25 _ rfl g1 rfl _ (hc (part s 64)) _ HB.out Tryd.underlying25 rfl Hs2.out ?_)
          | ((with_reducible show wpList _ _ _ ({ dst := _, op := Op.store _ _ _, type := _, pos := _, after := _, guard := _ } :: _) _ _); refine wpList_store_blk rfl 25 _ _ rfl w.heap.size rfl (hc (part s 64)) rfl _ _ h0 Hl2.out Hs2.out (hc_row_one _) ?_))
        have HB2 := h0.setRow (cs' := hc (part s 64))
        refine bodyPost_ret (results_cell2 rfl _ w.heap.size 25 (hc (part s 64)) (0, 0) _ rfl HB2 Tryd.underlying25 rfl Hs2.out) rfl ⟨?_, hb.setRow (Nat.le_refl _) _⟩
        rw [Hp.out.1, Hp.out.2, Hun.out]; rfl
  · have Hp := hid (show prH s = zero32 ∧ prB s = false by unfold prH prB parseL; rw [if_neg h64]; exact ⟨rfl, rfl⟩)
    have ht : (((s.length : Int)) != 64) = true := by simp; omega
    clear h64
    have hb0 : Below w.heap.size w ((w.alloc (.cells (hc zero32) 25)).alloc (.cells (hc zero32) 25)) := ((Below.refl _ w).alloc (Nat.le_refl _) _).alloc (by simp) _
    go_enter Tryd.func25, Tryd.ntmps25
    go_wp2_with (first
      | ((with_reducible show wpList _ _ _ ({ dst := _, op := Op.load 25 _, type := _, pos := _, after := _, guard := _ } :: _) _ _); refine wpList_load_blk rfl 25 _ rfl (w.heap.size + 1) rfl _ (hc zero32) _ (Blk.new' _ _ _ (by simp)) Tryd.underlying25 rfl Hsz.out ?_)
      | ((with_reducible show wpList _ _ _ ({ dst := _, op := Op.store _ _ _, type := _, pos := _, after := _, guard := _ } :: _) _ _); refine wpList_store_blk rfl 25 _ _ rfl w.heap.size rfl (hc zero32) rfl _ _ ((Blk.new w (hc zero32) 25).alloc _) rfl Hsz.out (hc_row_one _) ?_))
    refine bodyPost_ret (results_cell2 rfl _ w.heap.size 25 (hc zero32) (0, 0) _ rfl (((Blk.new w (hc zero32) 25).alloc _).setRow) Tryd.underlying25 rfl Hsz.out) rfl ⟨?_, hb0.setRow (Nat.le_refl _) _⟩
    rw [Hp.out.1, Hp.out.2]; rfl
end Go.Proofs.YtdllaenbkfajdaaDoor
