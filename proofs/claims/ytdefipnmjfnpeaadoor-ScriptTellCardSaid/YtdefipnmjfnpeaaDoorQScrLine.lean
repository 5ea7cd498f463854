/- script.line -/
import Derived.Test.YtdefipnmjfnpeaaDoorQScrGetLaw
import Derived.Test.YtdefipnmjfnpeaaDoorQScrMem

set_option maxRecDepth 100000
namespace Go.Proofs.YtdefipnmjfnpeaaDoor
open Go.RowKit Go.Spec
def Stp.cs (x : Stp) : Array Value := #[.int .i64 x.kind, .int .i64 x.a, .int .i64 x.b, .int .i64 x.c, sv x.text]
def Stp.v (x : Stp) : Value := .agg x.cs
theorem Tryd.sizeUses : (Tryd.prog.info? 59).map (·.size) = some 3 := by kernel_rfl
theorem Tryd.sizeStep : (Tryd.prog.info? 28).map (·.size) = some 5 := by kernel_rfl
theorem Tryd.infoStr : (Tryd.prog.info? 9).map (fun i => (i.zero, i.size, i.bytes)) = some (some (.string ByteArray.empty), 1, 16) := by kernel_rfl
theorem nums_le (k : Nat) : numsT k ≤ 3 := by unfold numsT; split <;> omega
theorem word_len (k : Nat) : (wordT k).length ≤ 7 := by unfold wordT; split <;> simp
theorem join_tail (w : List UInt8) (r : List (List UInt8)) : Lib.join (w :: r) [32] = w ++ tailL r := by
  rw [Lib.join_cons]; rfl
theorem tail_len (r : List (List UInt8)) (m : Nat) (h : ∀ w ∈ r, w.length ≤ m) : (tailL r).length ≤ r.length * (m + 1) := by
  induction r with
  | nil => simp [tailL]
  | cons w l ih =>
    have e : tailL (w :: l) = 32 :: (w ++ tailL l) := by simp [tailL]
    have h1 := h w (List.mem_cons_self ..)
    have h2 := ih fun x hx => h x (List.mem_cons_of_mem _ hx)
    rw [e, List.length_cons, List.length_append, List.length_cons, Nat.succ_mul]; omega
def usesC (k : Nat) : Array Value := #[sv (wordT k), .int .i64 (numsT k : Nat), .bool (textT k)]
theorem uses_cells {w : World} (hG : ScrG w) (k : Nat) (hk : k < 14) : ∀ j v, (usesC k).toList[j]? = some v → w.cell? ((⟨0, k * 3, none⟩ : Addr).add j) = some v := by
  intro j v hj
  rw [Addr.add_lit]
  have h3 : j = 0 ∨ j = 1 ∨ j = 2 := by
    have := (List.getElem?_eq_some_iff.1 hj).1
    simp [usesC] at this; omega
  rw [Nat.mul_comm k 3]
  rcases h3 with rfl | rfl | rfl
  · simp [usesC] at hj; subst hj; exact hG.word k hk
  · simp [usesC] at hj; subst hj; exact hG.nums k hk
  · simp [usesC] at hj; subst hj; exact hG.text k hk
theorem _root_.Go.Spec.Blk.grown' {w w' : World} {g t : Nat} {cs : Array Value} {r : Option Nat} (h : Blk w g cs t) (hg : w.grownBy w' r) (hne : ∀ q, r = some q → q ≠ g) : Blk w' g cs t :=
  (hg.block g h.lt (fun e => hne g e.symm rfl)).trans h
theorem sv_one (l : List (List UInt8)) : ∀ u ∈ l.map sv, u.oneCell' = true := by
  intro u hu
  obtain ⟨x, _, rfl⟩ := List.mem_map.1 hu
  rfl
set_option maxHeartbeats 4000000 in
theorem line_any (x : Stp) (w : World) (hi : I64 x) (hl : x.text.length ≤ 100000000) (hG : ScrG w) :
    Calls Tryd.prog 14 #[x.v] w fun e w' => e = .returned (sv (lineL x)) ∧ Below w.heap.size w w' := by
  obtain ⟨kind, a, b, c, text⟩ := x
  obtain ⟨i0, hi0, hz0, hz1, hz2⟩ := info_parts Tryd.infoStr
  have HI0 := hid hi0; clear hi0
  have HI := hid hi; have HG := hid hG; clear hi hG
  simp only at hl
  unfold Stp.v Stp.cs
  simp only
  go_enter Tryd.func14, Tryd.ntmps14
  go_upto_region 1 with fail
  refine wp_world (fun W => Blk W w.heap.size #[.int .i64 kind, .int .i64 a, .int .i64 b, .int .i64 c, sv text] 28 ∧ Below w.heap.size w W) ⟨Blk.new _ _ _, (Below.refl _ w).alloc (Nat.le_refl _) _⟩ ?_
  rintro y0 ⟨hX, hb0⟩
  have HX0 := hid hX; have HB0 := hid hb0; clear hX hb0
  have e0 : y0.cell? ⟨w.heap.size, 0, none⟩ = some (.int .i64 kind) := HX0.out.cell 0
  by_cases h1 : kind < 1
  · have d1 : decide (kind < 1) = true := decide_eq_true h1
    have HE := hid (show lineL ⟨kind, a, b, c, text⟩ = [] from if_neg (by unfold isK; simp only; omega))
    clear h1
    go_wp2_with fail
    go_ret
    exact ⟨by rw [HE.out]; rfl, HB0.out⟩
  by_cases h2 : 13 < kind
  · have d1 : decide (kind < 1) = false := decide_eq_false h1
    have d2 : decide (13 < kind) = true := decide_eq_true h2
    have HE := hid (show lineL ⟨kind, a, b, c, text⟩ = [] from if_neg (by unfold isK; simp only; omega))
    clear h1 h2
    go_wp2_with fail
    go_ret
    exact ⟨by rw [HE.out]; rfl, HB0.out⟩
  obtain ⟨k, rfl⟩ := Int.eq_ofNat_of_zero_le (show 0 ≤ kind by omega)
  have d1 : decide ((k : Int) < 1) = false := decide_eq_false h1
  have d2 : decide (13 < (k : Int)) = false := decide_eq_false h2
  have hk14 : (k : Int) < 14 := by omega
  have Hk := hid (show 1 ≤ k ∧ k < 14 from ⟨by omega, by omega⟩)
  have UC := hid (uses_cells (HG.out.later HB0.out) k Hk.out.2)
  clear h1 h2
  go_upto_region 4 with (first
    | ((with_reducible show wpList _ _ _ ({ dst := _, op := Op.load 59 _, type := _, pos := _, after := _, guard := _ } :: _) _ _); refine wpList_load_cs rfl 59 _ rfl ⟨0, k * 3, none⟩ rfl _ _ UC.out Tryd.underlying59 rfl Tryd.sizeUses ?_)
    | ((with_reducible show wpList _ _ _ ({ dst := _, op := Op.store _ _ _, type := _, pos := _, after := _, guard := _ } :: _) _ _); refine wpList_store_newA rfl 59 _ _ rfl rfl (usesC k) rfl _ 59 rfl Tryd.sizeUses (by intro v hv; simp [usesC] at hv; rcases hv with rfl | rfl | rfl <;> rfl) ?_))
  refine wp_world (fun W => Blk W w.heap.size #[.int .i64 (k : Int), .int .i64 a, .int .i64 b, .int .i64 c, sv text] 28 ∧ Blk W y0.heap.size (usesC k) 59 ∧ Below w.heap.size w W) ⟨HX0.out.alloc _, Blk.new _ _ _, HB0.out.alloc HB0.out.size _⟩ ?_
  clear UC e0 d1 d2 hk14 HX0 HB0
  generalize y0.heap.size = gu at *
  clear y0
  rintro y1 ⟨hX, hU, hb1⟩
  have HX1 := hid hX; have HU1 := hid hU; have HB1 := hid hb1; clear hX hU hb1
  have HE := hid (show lineL ⟨(k : Int), a, b, c, text⟩ = Lib.join (wordT k :: ((([a, b, c].take (numsT k)).map Lib.itoa) ++ if textT k then [hexW text] else [])) [32] ++ [10] from by
    rw [join_tail]; exact if_pos (show isK (k : Int) from by unfold isK; have := Hk.out; omega))
  have u0 : y1.cell? ⟨gu, 0, none⟩ = some (sv (wordT k)) := HU1.out.cell 0
  have HW := hid (word_len k)
  have hN := nums_le k
  have hNI : (numsT k : Int) ≤ 3 := Int.ofNat_le.2 hN
  unfold usesC at HU1
  generalize wordT k = W0 at *
  generalize numsT k = N at *
  generalize textT k = tb at *
  go_upto_region 5 with fail
  refine wp_world (fun W => W.ownsRow y1.heap.size 9 1 (.slice (some ⟨y1.heap.size, 0, none⟩) 1 1) 1 [sv W0] ∧ Blk W w.heap.size #[.int .i64 (k : Int), .int .i64 a, .int .i64 b, .int .i64 c, sv text] 28 ∧ Blk W gu #[sv W0, .int .i64 (N : Nat), .bool tb] 59 ∧ Below w.heap.size w W ∧ y1.heap.size < W.heap.size) ⟨ownsRow_lit (w := y1) (base := y1.heap.size) (e := 9) (sv W0) (Nat.le_refl _), HX1.out.alloc _, HU1.out.alloc _, HB1.out.alloc HB1.out.size _, by simp⟩ ?_
  have Hlt := hid (show w.heap.size < y1.heap.size ∧ gu < y1.heap.size from ⟨HX1.out.lt, HU1.out.lt⟩)
  clear u0 HX1 HU1 HB1
  generalize y1.heap.size = B at *
  clear y1
  rintro y2 ⟨hR, hX, hU, hb2, hBy⟩
  have HR2 := hid hR; have HX2 := hid hX; have HU2 := hid hU; have HB2 := hid hb2; clear hR hX hU hb2
  have x1 : y2.cell? ⟨w.heap.size, 1, none⟩ = some (.int .i64 a) := HX2.out.cell 1
  have x2 : y2.cell? ⟨w.heap.size, 2, none⟩ = some (.int .i64 b) := HX2.out.cell 2
  have x3 : y2.cell? ⟨w.heap.size, 3, none⟩ = some (.int .i64 c) := HX2.out.cell 3
  have u1 : y2.cell? ⟨gu, 1, none⟩ = some (.int .i64 (N : Nat)) := HU2.out.cell 1
  have hlt1 : w.heap.size < y2.heap.size := HX2.out.lt
  have hlt2 : gu < y2.heap.size := HU2.out.lt
  go_upto_region 6 with fail
  refine wp_world (fun W => W.ownsRow B 9 1 (.slice (some ⟨B, 0, none⟩) 1 1) 1 [sv W0] ∧ Blk W w.heap.size #[.int .i64 (k : Int), .int .i64 a, .int .i64 b, .int .i64 c, sv text] 28 ∧ Blk W gu #[sv W0, .int .i64 (N : Nat), .bool tb] 59 ∧ Blk W y2.heap.size #[.int .i64 a, .int .i64 b, .int .i64 c] 3 ∧ Below w.heap.size w W) ⟨HR2.out.alloc _, HX2.out.alloc _, HU2.out.alloc _, Blk.new _ _ _, HB2.out.alloc HB2.out.size _⟩ ?_
  clear x1 x2 x3 u1 hlt1 hlt2 HR2 HX2 HU2 HB2
  generalize y2.heap.size = gi at *
  clear y2
  rintro y3 ⟨hR, hX, hU, hA, hb3⟩
  have HBgi := hid hBy
  clear hBy
  go_loopw [4, 33] (fun v i wr => ∃ j : Nat, j ≤ N ∧ i = .int .i64 (j : Int) ∧ wr.ownsRow B 9 1 v (1 + j) ((W0 :: (([a, b, c].take j).map Lib.itoa)).map sv) ∧ (∀ q, v.ownBlock = some q → q ≠ gi) ∧ Blk wr w.heap.size #[.int .i64 (k : Int), .int .i64 a, .int .i64 b, .int .i64 c, sv text] 28 ∧ Blk wr gu #[sv W0, .int .i64 (N : Nat), .bool tb] 59 ∧ Blk wr gi #[.int .i64 a, .int .i64 b, .int .i64 c] 3 ∧ Below w.heap.size w wr) (fun _ i _ => N - (intOf i).toNat)
  case atStart =>
    refine ⟨0, by omega, rfl, by simpa using hR, fun q hq => ?_, hX, hU, hA, hb3⟩
    simp [Value.ownBlock] at hq
    have := HBgi.out; omega
  case round =>
    obtain ⟨j, hj, rfl, hown, hq, hX, hU, hA, hb⟩ := hrel
    have HO := hid hown; have HQ := hid hq; have HX := hid hX; have HU := hid hU; have HA := hid hA; have HB := hid hb
    clear hown hq hX hU hA hb
    by_cases hlt : j < N
    · have hjI : (j : Int) < (N : Int) := by omega
      obtain ⟨z, hz⟩ : ∃ z, [a, b, c][j]? = some z := ⟨_, List.getElem?_eq_getElem (by simp; omega)⟩
      have hzr : -9223372036854775808 ≤ z ∧ z ≤ 9223372036854775807 := by
        obtain ⟨h1, h2, h3⟩ := HI.out
        have hm := List.mem_of_getElem? hz
        simp at hm
        rcases hm with rfl | rfl | rfl <;> assumption
      have Htk := hid (show ([a, b, c].take (j + 1)).map Lib.itoa = ([a, b, c].take j).map Lib.itoa ++ [Lib.itoa z] by rw [List.take_add_one, hz]; simp)
      have cz : wr.cell? ⟨gi, j, none⟩ = some (.int .i64 z) := by
        have := HA.out.cells j (.int .i64 z) (by
          have e : (#[Value.int .i64 a, .int .i64 b, .int .i64 c] : Array Value).toList = [a, b, c].map (Value.int .i64) := rfl
          rw [e, List.getElem?_map, hz]; rfl)
        rw [Addr.add_lit, Nat.zero_add] at this
        exact this
      have C1 := hid (itoa_any z hzr.1 hzr.2 wr (HG.out.later HB.out))
      clear hzr hz
      generalize Lib.itoa z = Z at *
      go_wp2_with (first
        | (go_at_call 21; refine C1.out.mono ?_; rintro e w5 ⟨rfl, hb5⟩; have HO5 := hid ((HO.out.later hb5).alloc (.cells #[sv Z] 9)); have HS5 := hid (Blk.new w5 #[sv Z] 9); have HB5 := hid (hb5))
        | (at_builtin; refine wpList_app rfl _ _ 61 rfl B 9 i0 (.string ByteArray.empty) 1 16 Tryd.underlying61 HI0.out hz0 hz1 hz2 rfl (by decide) _ (1 + j) _ rfl HO5.out ⟨w5.heap.size, 0, none⟩ 1 1 [sv Z] rfl rfl ?c2 (by intro u hu; simp at hu; subst hu; rfl) ?c4 ?c5 ?c6 ?_))
      case c2 => exact fun j u hj => HS5.out.cells j u hj
      case c4 => unfold maxLen; omega
      case c5 => omega
      case c6 => have := HBgi.out; have := HA.out.lt; have := HB5.out.size; simp; omega
      intro v' w6 hown6 hg6 hat6
      have hge : ∀ q, Value.ownBlock u4 = some q → B ≤ q := fun q hq => (HO.out.lt q hq).1
      have HX6 := hid (((HX.out.later HB5.out).alloc (.cells #[sv Z] 9)).grown' hg6 (fun q hq => by have := hge q hq; have := Hlt.out; omega))
      have HU6 := hid (((HU.out.later HB5.out).alloc (.cells #[sv Z] 9)).grown' hg6 (fun q hq => by have := hge q hq; have := Hlt.out; omega))
      have HA6 := hid (((HA.out.later HB5.out).alloc (.cells #[sv Z] 9)).grown' hg6 HQ.out)
      have HB6 := hid (((bth HB.out HB5.out).alloc (bth HB.out HB5.out).size (.cells #[sv Z] 9)).grown hg6 ((bth HB.out HB5.out).alloc (bth HB.out HB5.out).size (.cells #[sv Z] 9)).size (fun q hq => by have := hge q hq; have := Hlt.out; omega))
      have HQ6 := hid (show ∀ q, v'.ownBlock = some q → q ≠ gi from fun q hq => by
        rcases hat6 q hq with h | h
        · exact HQ.out q h
        · have := HA.out.lt; have := HB5.out.size; have e9 : (w5.alloc (.cells #[sv Z] 9)).heap.size = w5.heap.size + 1 := by simp
          first | omega | (rw [e9] at h; omega))
      have HO6 := hid hown6
      clear hown6 hg6 hat6 hge
      go_wp2
      go_roundw
      case rel => exact ⟨j + 1, by omega, by go_num, by rw [Htk.out]; simpa [Nat.add_assoc] using HO6.out, HQ6.out, HX6.out, HU6.out, HA6.out, HB6.out⟩
      case measure => simp [intOf]; omega
    · obtain rfl : j = N := by omega
      have u2 : wr.cell? ⟨gu, 2, none⟩ = some (.bool tb) := HU.out.cell 2
      have hAl : (([a, b, c].take j).map Lib.itoa).length = j := by rw [List.length_map, List.length_take]; simp; omega
      have hA21 : ∀ w ∈ ([a, b, c].take j).map Lib.itoa, w.length ≤ 200000001 := by
        intro w hw
        obtain ⟨z, hz, rfl⟩ := List.mem_map.1 hw
        obtain ⟨h1, h2, h3⟩ := HI.out
        have hm := List.mem_of_mem_take hz
        have : (Lib.itoa z).length ≤ 21 := by
          simp at hm
          rcases hm with rfl | rfl | rfl
          · exact Lib.itoa_length_le _ h1.1 h1.2
          · exact Lib.itoa_length_le _ h2.1 h2.2
          · exact Lib.itoa_length_le _ h3.1 h3.2
        omega
      clear hlt
      generalize ([a, b, c].take j).map Lib.itoa = A at *
      have HA21 := hid hA21; have HAl := hid hAl; clear hA21 hAl
      cases tb with
      | false =>
        have J1 := hid (join_any (W0 :: A) u4 wr B (by
            have := HO.out
            rw [show (W0 :: A).length = 1 + j by rw [List.length_cons, HAl.out]; omega]
            exact this) (by simp) (by
            rw [join_tail, List.length_append]
            have h1 := tail_len A 200000001 HA21.out
            have h2 := HW.out
            rw [HAl.out] at h1
            have : j * (200000001 + 1) ≤ 3 * (200000001 + 1) := Nat.mul_le_mul_right _ hN
            omega) (by rw [List.length_cons, HAl.out]; omega))
        have hjl : (Lib.join (W0 :: A) [32]).length ≤ 100000000000 := by
            rw [join_tail, List.length_append]
            have h1 := tail_len A 200000001 HA21.out
            have h2 := HW.out
            rw [HAl.out] at h1
            have : j * (200000001 + 1) ≤ 3 * (200000001 + 1) := Nat.mul_le_mul_right _ hN
            omega
        have HE2 := hid (show lineL ⟨(k : Int), a, b, c, text⟩ = Lib.join (W0 :: A) [32] ++ [10] by rw [HE.out]; simp)
        generalize Lib.join (W0 :: A) [32] = J at *
        have hj1 : ¬ 9223372036854775807 < J.length + 1 := by omega
        clear hjl
        go_wp2_with (go_at_call 23; refine J1.out.mono ?_; rintro e w9 ⟨rfl, hb9⟩)
        go_ret
        exact ⟨by rw [HE2.out]; rfl, bth HB.out hb9⟩
      | true =>
        have x4 : wr.cell? ⟨w.heap.size, 4, none⟩ = some (sv text) := HX.out.cell 4
        have C1 := hid (hex_any text wr (by omega))
        have hHl := hid (hexW_len text)
        have HE2 := hid (show lineL ⟨(k : Int), a, b, c, text⟩ = Lib.join (W0 :: (A ++ [hexW text])) [32] ++ [10] by rw [HE.out]; simp)
        generalize hexW text = Z at *
        have hjl : (Lib.join (W0 :: (A ++ [Z])) [32]).length ≤ 100000000000 := by
            rw [join_tail, List.length_append]
            have h1 := tail_len (A ++ [Z]) 200000001 (fun w hw => by
              rcases List.mem_append.1 hw with h | h
              · exact HA21.out w h
              · rw [List.mem_singleton] at h; subst h; have := hHl.out; omega)
            have h2 := HW.out
            rw [List.length_append, HAl.out] at h1
            have : (j + [Z].length) * (200000001 + 1) ≤ 4 * (200000001 + 1) := Nat.mul_le_mul_right _ (by simp; omega)
            omega
        have HJL := hid hjl; clear hjl
        go_wp2_with (first
          | (go_at_call 22; refine C1.out.mono ?_; rintro e w5 ⟨rfl, hb5⟩; have HO5 := hid ((HO.out.later hb5).alloc (.cells #[sv Z] 9)); have HS5 := hid (Blk.new w5 #[sv Z] 9); have HB5 := hid (hb5))
          | (at_builtin; refine wpList_app rfl _ _ 61 rfl B 9 i0 (.string ByteArray.empty) 1 16 Tryd.underlying61 HI0.out hz0 hz1 hz2 rfl (by decide) _ (1 + j) _ rfl HO5.out ⟨w5.heap.size, 0, none⟩ 1 1 [sv Z] rfl rfl ?c2 (by intro u hu; simp at hu; subst hu; rfl) ?c4 ?c5 ?c6 ?_))
        case c2 => exact fun j u hj => HS5.out.cells j u hj
        case c4 => unfold maxLen; omega
        case c5 => omega
        case c6 => have := HBgi.out; have := HA.out.lt; have := HB5.out.size; simp; omega
        intro v' w6 hown6 hg6 hat6
        have hge : ∀ q, Value.ownBlock u4 = some q → B ≤ q := fun q hq => (HO.out.lt q hq).1
        have HB6 := hid (((bth HB.out HB5.out).alloc (bth HB.out HB5.out).size (.cells #[sv Z] 9)).grown hg6 ((bth HB.out HB5.out).alloc (bth HB.out HB5.out).size (.cells #[sv Z] 9)).size (fun q hq => by have := hge q hq; have := Hlt.out; omega))
        have J1 := hid (join_any (W0 :: (A ++ [Z])) v' w6 B (by
            rw [show (W0 :: (A ++ [Z])).length = 1 + j + 1 by rw [List.length_cons, List.length_append, HAl.out]; simp; omega]
            simpa using hown6) (by simp) HJL.out (by rw [List.length_cons, List.length_append, HAl.out]; simp; omega))
        clear hown6 hg6 hat6 hge x4
        have hjl := HJL.out
        generalize Lib.join (W0 :: (A ++ [Z])) [32] = J at *
        have hj1 : ¬ 9223372036854775807 < J.length + 1 := by omega
        clear hjl HJL
        go_wp2_with (go_at_call 23; refine J1.out.mono ?_; rintro e w9 ⟨rfl, hb9⟩)
        go_ret
        exact ⟨by rw [HE2.out]; rfl, bth HB6.out hb9⟩
end Go.Proofs.YtdefipnmjfnpeaaDoor
