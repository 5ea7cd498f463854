/- (t *Tiles) Add -/
import Derived.Test.YtbpjlancjdbehaaDoorQSeq
import Derived.Test.YtbpjlancjdbehaaDoorQTileMap
import Derived.Test.YtbpjlancjdbehaaDoorQTreeLaw
import Derived.Test.YtbpjlancjdbehaaDoorQTreeNode
import Derived.Maps.RangeWalk
set_option maxRecDepth 100000
namespace Go.Proofs.YtbpjlancjdbehaaDoor
open Go.RowKit Go.Spec
theorem ShaG.two {w w' : World} {g b : Nat} {l : List (List UInt8)} (h : ShaG w) (hT : TilesAt w g b l) (h2 : Two g b w w') : ShaG w' := by
  have key : ∀ (t : Nat) (ns : List Nat), 0 < ns.length → Tab w t ns → Tab w' t ns := by
    intro t ns hn ht
    have h0 := ht.at_ 0 hn
    have n1 : t ≠ g := by
      intro e
      rw [e, hT.c0] at h0; cases h0
    have n2 : t ≠ b := by
      intro e
      obtain ⟨n, _, D, ⟨es, c, hb, _⟩, _⟩ := hT.map
      rw [e] at h0
      simp [World.cell?, hb] at h0
    have hh := h2.block t ht.lt n1 n2
    exact ⟨Nat.lt_of_lt_of_le ht.lt h2.size, fun i hi => by
      have := ht.at_ i hi
      unfold World.cell? at this ⊢
      rw [hh]; exact this⟩
  exact ⟨key _ _ (by decide) h.first, key _ _ (by decide) h.rounds⟩
/-- what the map holds while a leaf is put in -/
def addZ (l : List (List UInt8)) (x : List UInt8) (lv : Nat) (a b : Int) : Option (List UInt8) := if 0 ≤ a ∧ 0 ≤ b then addG l x lv a.toNat b.toNat else none
theorem addZ_zero (l : List (List UInt8)) (x : List UInt8) (a b : Int) : putF (tileZ l) 0 (l.length : Int) x a b = addZ l x 0 a b := by
  unfold putF addZ tileZ
  by_cases h : 0 ≤ a ∧ 0 ≤ b
  · rw [if_pos h, if_pos h, addG_zero]
    by_cases h2 : a = 0 ∧ b = (l.length : Int)
    · rw [if_pos h2, if_pos ⟨by omega, by omega⟩]
    · rw [if_neg h2, if_neg (by omega)]
  · rw [if_neg h, if_neg h, if_neg (by omega)]
theorem addZ_succ (l : List (List UInt8)) (x : List UInt8) (lv i : Nat) (h : (i + 1) * 2 ^ lv = l.length + 1) (hi : i % 2 = 1) (a b : Int) :
    putF (addZ l x lv) ((lv + 1 : Nat) : Int) ((i / 2 : Nat) : Int) (rootL (seg (l ++ [x]) (i / 2 * 2 ^ (lv + 1)) ((i / 2 + 1) * 2 ^ (lv + 1)))) a b = addZ l x (lv + 1) a b := by
  unfold putF addZ
  by_cases h1 : 0 ≤ a ∧ 0 ≤ b
  · rw [if_pos h1, if_pos h1, addG_succ l x lv i h hi]
    by_cases h2 : a = ((lv + 1 : Nat) : Int) ∧ b = ((i / 2 : Nat) : Int)
    · rw [if_pos h2, if_pos ⟨by omega, by omega⟩]
    · rw [if_neg h2, if_neg (by omega)]
  · rw [if_neg h1, if_neg h1, if_neg (by omega)]
theorem addZ_end (l : List (List UInt8)) (x : List UInt8) (lv i : Nat) (h : (i + 1) * 2 ^ lv = l.length + 1) (hi : i % 2 = 0) (a b : Int) : addZ l x lv a b = tileZ (l ++ [x]) a b := by
  unfold addZ tileZ
  split
  · exact addG_end l x lv i h hi _ _
  · rfl
theorem addZ_left (l : List (List UInt8)) (x : List UInt8) (lv i : Nat) (h : (i + 1) * 2 ^ lv = l.length + 1) (hi : i % 2 = 1) : addZ l x lv (lv : Int) ((i : Int) - 1) = some (rootL (seg l ((i - 1) * 2 ^ lv) (i * 2 ^ lv))) := by
  unfold addZ
  rw [if_pos ⟨by omega, by omega⟩, show ((lv : Int)).toNat = lv by omega, show ((i : Int) - 1).toNat = i - 1 by omega]
  exact addG_left l x lv i h hi
set_option maxHeartbeats 1000000 in
theorem tadd_full (g b : Nat) (l : List (List UInt8)) (x : List UInt8) (w : World) (h : TilesAt w g b l) (hl : l.length = 4096) :
    Calls Tryd.prog 22 #[.pointer (some ⟨g, 0, none⟩), hv x] w fun e w' => e = .returned (.int .i64 60) ∧ Below w.heap.size w w' := by
  have hw1 : Below w.heap.size w (w.alloc (.cells (hc x) 29)) := (Below.refl _ w).alloc (Nat.le_refl _) _
  have hT := h.later hw1
  have c1 := hT.c1
  have HN := hid (none_any g b l _ hT)
  have hlt := h.lt.1
  have d : decide ((4096 : Int) ≤ (l.length : Int)) = true := by simp; omega
  clear h hT hl
  go_enter Tryd.func22, Tryd.ntmps22
  go_wp2_with (go_at_call 41; refine HN.out.mono ?_; rintro e w1 ⟨rfl, rfl⟩)
  go_ret
  exact ⟨rfl, hw1⟩
theorem pow_le_len {lv i n : Nat} (h : (i + 1) * 2 ^ lv = n + 1) (hn : n < 4096) : lv ≤ 12 ∧ i ≤ 4096 := by
  have hp : 0 < 2 ^ lv := Nat.pow_pos (by omega)
  have h1 : 2 ^ lv ≤ (i + 1) * 2 ^ lv := Nat.le_mul_of_pos_left _ (by omega)
  have h2 : i + 1 ≤ (i + 1) * 2 ^ lv := Nat.le_mul_of_pos_right _ hp
  refine ⟨?_, by omega⟩
  rcases Nat.lt_or_ge 12 lv with h3 | h3
  · have h5 : 2 ^ 13 ≤ 2 ^ lv := Nat.pow_le_pow_right (by omega) (by omega)
    have h4 : (2 : Nat) ^ 13 = 8192 := rfl
    omega
  · exact h3
/-- the number in the second cell of a block -/
def cellN (w : World) (A : Nat) : Nat := match w.cell? ⟨A, 1, none⟩ with | some (.int _ k) => k.toNat | _ => 0
theorem cellN_of {w : World} {A : Nat} {q : IntKind} {k : Int} (h : w.cell? ⟨A, 1, none⟩ = some (.int q k)) : cellN w A = k.toNat := by unfold cellN; rw [h]
set_option maxHeartbeats 4000000 in
theorem tadd_any (g b : Nat) (l : List (List UInt8)) (x : List UInt8) (w : World) (h : TilesAt w g b l) (hx : x.length = 32) (hl : l.length < 4096) (hG : ShaG w) :
    Calls Tryd.prog 22 #[.pointer (some ⟨g, 0, none⟩), hv x] w fun e w' => e = .returned (.int .i64 0) ∧ TilesAt w' g b (l ++ [x]) ∧ Two g b w w' := by
  have hw1 : Below w.heap.size w (w.alloc (.cells (hc x) 29)) := (Below.refl _ w).alloc (Nat.le_refl _) _
  have hT := h.later hw1
  have hne := h.ne
  have Hlt := hid h.lt
  have Hr32 := hid h.r32
  have c1 := hT.c1
  have HN := hid (none_any g b l _ hT)
  have HGw := hid hG
  have d : decide ((4096 : Int) ≤ (l.length : Int)) = false := by simp; omega
  have HT := hid hT; have HG := hid hG; have Hx := hid hx; have Hh := hid h
  have hglt := h.lt.1
  have ix := hx
  clear h hT hx hG
  obtain ⟨n, hn⟩ : ∃ n, l.length = n := ⟨_, rfl⟩
  rw [hn] at d hl c1
  have Hn := hid hn
  go_enter Tryd.func22, Tryd.ntmps22
  go_upto_region 6 with (first
    | (go_at_call 41; refine HN.out.mono ?_; rintro e w1 ⟨rfl, rfl⟩)
    | fail)
  have hL0 : Blk ((w.alloc (.cells (hc x) 29)).alloc (.cells #[.int .i64 0, .int .i64 (n : Int)] 23)) w.heap.size (hc x) 29 := (Blk.new _ _ _).alloc _
  have hA0 : Blk ((w.alloc (.cells (hc x) 29)).alloc (.cells #[.int .i64 0, .int .i64 (n : Int)] 23)) (w.heap.size + 1) #[.int .i64 0, .int .i64 (n : Int)] 23 := Blk.new' _ _ _ (by simp)
  have hB0 : Below w.heap.size w ((w.alloc (.cells (hc x) 29)).alloc (.cells #[.int .i64 0, .int .i64 (n : Int)] 23)) := hw1.alloc (by simp) _
  have hT0 := Hh.out.later hB0
  generalize ((w.alloc (.cells (hc x) 29)).alloc (.cells #[.int .i64 0, .int .i64 (n : Int)] 23)) = w0 at *
  obtain ⟨L, hL⟩ : ∃ L, w.heap.size = L := ⟨_, rfl⟩
  obtain ⟨A, hA⟩ : ∃ A, w.heap.size + 1 = A := ⟨_, rfl⟩
  rw [hA] at hA0
  simp only [hA]
  rw [hL] at hL0
  simp only [hL]
  have HL := hid hL; have HA := hid hA
  have hS1 := Tryd.sizeHash
  have Hsx := hid (show (Tryd.prog.info? 29).map (·.size) = some (hc x).size by rw [hc_size, Hx.out]; exact Tryd.sizeHash)
  have HS23 := hid (show (Tryd.prog.info? 23).map (·.size) = some 2 by kernel_rfl)
  have nLA : L ≠ A := by omega
  have nLg : L ≠ g := by omega
  have nAg : A ≠ g := by omega
  have nLb : L ≠ b := by have := Hlt.out.2; omega
  have nAb : A ≠ b := by have := Hlt.out.2; omega
  have HB0 := hid hB0
  clear hL hA hB0 hw1 HT HN c1 hS1
  refine wp_region_tail 6 (by kernel_rfl) (by kernel_rfl) ?_
  intro w1 he1 hb1
  simp only [List.take_succ_cons, List.take_zero, List.drop_succ_cons, List.drop_zero]
  have HT1 := hid (hT0.kept (w' := w1) (by rw [he1]) (by rw [he1]))
  have hL1 := hid (hL0.heap (w' := w1) he1)
  have hA1 := hid (hA0.heap (w' := w1) he1)
  have HB1 := hid (bth HB0.out hb1)
  have c0 := HT1.out.c0
  obtain ⟨m, hm0, hm⟩ := HT1.out.map
  have HM := hid hm
  have hml : m < maxLen := by have := Hn.out; unfold maxLen; omega
  have Hm0 := hid hm0
  clear hT0 hL0 hA0 HB0 he1 hb1 hm hm0
  repeat (first
    | ((with_reducible show wpStill _ _ _ _ ({ dst := _, op := Op.load 23 _, type := _, pos := _, after := _, guard := _ } :: _) _); refine wpStill_load_blk rfl 23 _ rfl A rfl 23 _ _ hA1.out Tryd.underlying23 rfl HS23.out ?_)
    | ((with_reducible show wpStill _ _ _ _ ({ dst := _, op := Op.load 29 _, type := _, pos := _, after := _, guard := _ } :: _) _); refine wpStill_load_blk rfl 29 _ rfl L rfl 29 _ _ hL1.out Tryd.underlying29 rfl Hsx.out ?_)
    | still_step)
  refine wpStill_nil ?_
  go_wp2_with (at_mapUpdate; refine wpList_tile_put rfl _ _ _ _ rfl rfl rfl HM.out hml 0 (n : Int) rfl (by unfold inI; omega) (by unfold inI; omega) x rfl ?_; intro w2 hm2 hg2)
  have h2 : Two g b w1 w2 := Two.ofG hg2
  have HW2 := hid ((Two.of HB1.out).trans h2)
  have hS0 : rootL (seg (l ++ [x]) (n * 2 ^ 0) ((n + 1) * 2 ^ 0)) = x := by
    have := tileN_zero (l ++ [x]) n (by rw [List.length_append, Hn.out]; simp)
    unfold tileN at this
    rw [if_pos (by rw [List.length_append, Hn.out]; simp)] at this
    injection this with this
    rw [this]
    simp [List.getD_eq_getElem?_getD, ← Hn.out]
  have HR := hid (show ∃ lv i : Nat, (i + 1) * 2 ^ lv = n + 1 ∧ Blk w2 L (hc (rootL (seg (l ++ [x]) (i * 2 ^ lv) ((i + 1) * 2 ^ lv)))) 29 ∧ Blk w2 A #[.int .i64 (lv : Int), .int .i64 (i : Int)] 23 ∧ Blk w2 g #[.map (some b), .int .i64 (n : Int)] 48 ∧ (∃ m, m ≤ 16 * n + lv + 1 ∧ TMap w2 b m (addZ l x lv)) ∧ Two g b w w2 from
    ⟨0, n, by simp, by rw [hS0]; exact h2.blk hL1.out nLg nLb, h2.blk hA1.out nAg nAb, by
      have := HT1.out.blk
      rw [Hn.out] at this
      exact (hg2.block g HT1.out.lt.1 (fun e => by injection e with e; exact hne e.symm)).trans this, ⟨m + 1, by have := Hm0.out; rw [Hn.out] at this; omega, hm2.congr fun a c ha hc => by rw [← Hn.out]; exact addZ_zero l x a c⟩, HW2.out⟩)
  have H32 := hid (show ∀ y ∈ l ++ [x], y.length = 32 from fun y hy => by
    rcases List.mem_append.1 hy with h | h
    · exact Hr32.out y h
    · rw [List.mem_singleton.1 h]; exact Hx.out)
  have HGt := hid (fun w0 (h0 : Two g b w w0) => HGw.out.two Hh.out h0)
  clear h2 hS0 hm2 hg2 hL1 hA1 c0 HM hml Hm0 HT1 HB1 HW2 Hsx
  go_frame
  go_loopw [26] (fun _ wr => ∃ lv i : Nat, (i + 1) * 2 ^ lv = n + 1 ∧ Blk wr L (hc (rootL (seg (l ++ [x]) (i * 2 ^ lv) ((i + 1) * 2 ^ lv)))) 29 ∧ Blk wr A #[.int .i64 (lv : Int), .int .i64 (i : Int)] 23 ∧ Blk wr g #[.map (some b), .int .i64 (n : Int)] 48 ∧ (∃ m, m ≤ 16 * n + lv + 1 ∧ TMap wr b m (addZ l x lv)) ∧ Two g b w wr) (fun _ wr => cellN wr A)
  case atStart => exact HR.out
  case round =>
    clear HR
    obtain ⟨lv, i, hi, hL, hA, hg, ⟨m, hm0, hm⟩, h2⟩ := hrel
    obtain ⟨hl12, hi4⟩ := pow_le_len hi hl
    have a0 := hA.cell 0
    have a1 := hA.cell 1
    have MEAS := hid hA
    have g0 := hg.cell 0
    have g1 := hg.cell 1
    simp only [List.getElem?_toArray, List.getElem?_cons_zero, List.getElem?_cons_succ] at a0 a1 g0 g1
    have Hi := hid hi; have HLb := hid hL; have HAb := hid hA; have Hg := hid hg; have Hm0 := hid hm0; have HM := hid hm; have H2 := hid h2
    clear hi hL hA hg hm0 hm h2
    have hmx := hid (show m + 1 < maxLen by have := Hm0.out; unfold maxLen; omega)
    by_cases hodd : i % 2 = 1
    · have hd : ((i : Int) % 2 == 1) = true := by rw [beq_iff_eq]; omega
      obtain ⟨j, hj⟩ : ∃ j, i / 2 = j := ⟨_, rfl⟩
      have ej : (i : Int) / 2 = (j : Int) := by omega
      obtain ⟨i1, hi1⟩ : ∃ i1, i - 1 = i1 := ⟨_, rfl⟩
      have ei : (i : Int) - 1 = (i1 : Int) := by omega
      have hi14 : i1 ≤ 4096 := by omega
      have hj4 : j ≤ 4096 := by omega
      have hji : j < i := by omega
      obtain ⟨lv1, hlv1⟩ : ∃ lv1, lv + 1 = lv1 := ⟨_, rfl⟩
      have el : (lv : Int) + 1 = (lv1 : Int) := by omega
      have hl13 : lv1 ≤ 13 := by omega
      have Hj := hid hj; have Hlv1 := hid hlv1
      have Hi2 := hid (show (i + 1) * 2 ^ lv = l.length + 1 from by rw [Hn.out]; exact Hi.out)
      have hupp := hid (addG_up l x lv i Hi2.out hodd)
      have hleft := hid (addZ_left l x lv i Hi2.out hodd)
      have Hsuc := hid (addZ_succ l x lv i Hi2.out hodd)
      rw [ei] at hleft
      rw [hlv1, hj] at hupp Hsuc
      have hY := rootL_len _ (seg (l ++ [x]) (i * 2 ^ lv) ((i + 1) * 2 ^ lv)) (Nat.le_refl _) (seg_32 H32.out _ _)
      have hZ := rootL_len _ (seg l ((i - 1) * 2 ^ lv) (i * 2 ^ lv)) (Nat.le_refl _) (seg_32 Hr32.out _ _)
      have hN := rootL_len _ (seg (l ++ [x]) (j * 2 ^ lv1) ((j + 1) * 2 ^ lv1)) (Nat.le_refl _) (seg_32 H32.out _ _)
      generalize rootL (seg (l ++ [x]) (i * 2 ^ lv) ((i + 1) * 2 ^ lv)) = Y at *
      generalize rootL (seg l ((i - 1) * 2 ^ lv) (i * 2 ^ lv)) = Z at *
      obtain ⟨N, hNe⟩ : ∃ N, rootL (seg (l ++ [x]) (j * 2 ^ lv1) ((j + 1) * 2 ^ lv1)) = N := ⟨_, rfl⟩
      rw [hNe] at hN hupp Hsuc
      have HNe := hid hNe
      clear hj hi1 hlv1 hodd hNe
      have SY := hid (show (Tryd.prog.info? 29).map (·.size) = some Y.length by rw [hY]; exact Tryd.sizeHash)
      have SN := hid (show (Tryd.prog.info? 29).map (·.size) = some (hc N).size by rw [hc_size, hN]; exact Tryd.sizeHash)
      have SNY := hid (show (hc N).size = (hc Y).size by rw [hc_size, hc_size, hN, hY])
      have ND := hid (fun q : Later wr => node_any Z Y (lat q) hZ hY ((HGt.out _ H2.out).later (lat_below q)))
      rw [hupp.out.2] at ND
      have hbr := hid HM.out.lt
      have Yc := hid (fun q : Later wr => show ∀ j z, (Y.map bcell)[j]? = some z → (lat q).cell? ((⟨L, 0, none⟩ : Addr).add j) = some z from fun j z hz => (HLb.out.later (lat_below q)).cells j z (by rw [hc_toList]; exact hz))
      clear hY hZ hN
      go_wp2_with fail
      refine wp_region_later_tail 13 (by kernel_rfl) (by kernel_rfl) ?_
      simp only [List.take_succ_cons, List.take_zero, List.drop_succ_cons, List.drop_zero]
      repeat (first
        | (refine wpQuiet_load_one rfl 46 _ rfl ⟨g, 0, none⟩ rfl (.map (some b)) _ (by rintro _ ⟨q, rfl⟩; exact (Hg.out.later (lat_below q)).cell 0) Tryd.underlying46 rfl ?_; simp only [Act.put, List.setIfInBounds_toArray, List.set_cons_succ, List.set_cons_zero])
        | (refine wpQuiet_load_one rfl 3 _ rfl ⟨A, 0, none⟩ rfl (.int .i64 (lv : Int)) _ (by rintro _ ⟨q, rfl⟩; exact (HAb.out.later (lat_below q)).cell 0) Tryd.underlying3 rfl ?_; simp only [Act.put, List.setIfInBounds_toArray, List.set_cons_succ, List.set_cons_zero])
        | (refine wpQuiet_load_one rfl 3 _ rfl ⟨A, 1, none⟩ rfl (.int .i64 (i : Int)) _ (by rintro _ ⟨q, rfl⟩; exact (HAb.out.later (lat_below q)).cell 1) Tryd.underlying3 rfl ?_; simp only [Act.put, List.setIfInBounds_toArray, List.set_cons_succ, List.set_cons_zero])
        | (refine wpQuiet_tile_look rfl _ _ _ rfl rfl rfl (by rintro _ ⟨q, rfl⟩; exact HM.out.later ((lat_below q).block b hbr.out)) (lv : Int) (i1 : Int) rfl (by unfold inI; omega) (by unfold inI; omega) _ hleft.out ?_; simp only [Act.put, List.setIfInBounds_toArray, List.set_cons_succ, List.set_cons_zero])
        | (refine wpQuiet_load_hcG rfl 29 _ rfl ⟨L, 0, none⟩ rfl Y _ (by rintro _ ⟨q, rfl⟩; exact Yc.out q) Tryd.underlying29 rfl SY.out ?_; simp only [Act.put, List.setIfInBounds_toArray, List.set_cons_succ, List.set_cons_zero])
        | go_big_quiet_step ((first | (go_at_call 40; with_reducible exact calls_later (ND.out _)))))
      refine wpQuiet_nil ?_
      rintro _ ⟨q3, rfl⟩
      have hb3 := lat_below q3
      generalize lat q3 = w3 at *
      have HL3 := hid (HLb.out.later hb3)
      have HA3 := hid (HAb.out.later hb3)
      have Hg3 := hid (Hg.out.later hb3)
      have HM3 := hid (HM.out.later (hb3.block b hbr.out))
      have H23 := hid (H2.out.trans (Two.of hb3))
      clear HLb HAb Hg HM H2 hb3 a0 a1 g0 g1 hbr ND Yc hleft
      have HL4 := hid (HL3.out.setRow (cs' := hc N))
      have HA4 := hid (HA3.out.setRow_ne (cs' := hc N) nLA.symm)
      have a0 := HA4.out.cell 0
      have a1 := HA4.out.cell 1
      simp only [List.getElem?_toArray, List.getElem?_cons_zero, List.getElem?_cons_succ] at a0 a1
      have hone : ∀ v ∈ (#[Value.int .i64 (lv1 : Int), .int .i64 (j : Int)] : Array Value).toList, v.oneCell' = true := by
        intro v hv
        rcases List.mem_cons.1 hv with rfl | hv
        · rfl
        · rw [List.mem_singleton.1 hv]; rfl
      have Hone := hid hone
      clear hone
      go_wp2_with (first
        | ((with_reducible show wpList _ _ _ ({ dst := _, op := Op.store 29 _ _, type := _, pos := _, after := _, guard := _ } :: _) _ _); refine wpList_store_blk rfl 29 _ _ rfl L rfl (hc N) rfl _ _ HL3.out SNY.out SN.out (hc_row_one _) ?_)
        | ((with_reducible show wpList _ _ _ ({ dst := _, op := Op.store 23 _ _, type := _, pos := _, after := _, guard := _ } :: _) _ _); refine wpList_store_blk rfl 23 _ _ rfl A rfl #[.int .i64 (lv1 : Int), .int .i64 (j : Int)] rfl _ _ HA4.out rfl HS23.out Hone.out ?_))
      have HL5 := hid (HL4.out.setRow_ne (cs' := #[.int .i64 (lv1 : Int), .int .i64 (j : Int)]) nLA)
      have HA5 := hid (HA4.out.setRow (cs' := #[.int .i64 (lv1 : Int), .int .i64 (j : Int)]))
      have Hg5 := hid ((Hg3.out.setRow_ne (cs' := hc N) nLg.symm).setRow_ne (cs' := #[.int .i64 (lv1 : Int), .int .i64 (j : Int)]) nAg.symm)
      have HM5 := hid (HM3.out.later ((setRow_ne (w := w3.setRow L (hc N)) (cs := #[.int .i64 (lv1 : Int), .int .i64 (j : Int)]) (k := b) nAb.symm).trans (setRow_ne (w := w3) (cs := hc N) (k := b) nLb.symm)))
      have H25 := hid ((H23.out.setRow (r := L) (by have := HL.out; omega) (hc N)).setRow (r := A) (by have := HA.out; omega) #[.int .i64 (lv1 : Int), .int .i64 (j : Int)])
      clear a0 a1 HL4 HA4 HL3 HA3 Hg3 HM3 H23 Hone
      generalize (w3.setRow L (hc N)).setRow A #[.int .i64 (lv1 : Int), .int .i64 (j : Int)] = w5 at *
      refine wp_region_tail 6 (by kernel_rfl) (by kernel_rfl) ?_
      intro w6 he6 hb6
      simp only [List.take_succ_cons, List.take_zero, List.drop_succ_cons, List.drop_zero]
      have Hg6 := hid (Hg5.out.heap (w' := w6) he6)
      have g0 := Hg6.out.cell 0
      simp only [List.getElem?_toArray, List.getElem?_cons_zero, List.getElem?_cons_succ] at g0
      have HL6 := hid (HL5.out.heap (w' := w6) he6)
      have HA6 := hid (HA5.out.heap (w' := w6) he6)
      have HM6 := hid (HM5.out.later (w' := w6) (by rw [he6]))
      have H26 := hid (H25.out.trans (Two.of hb6))
      clear he6 hb6 HL5 HA5 Hg5 HM5 H25
      repeat (first
        | ((with_reducible show wpStill _ _ _ _ ({ dst := _, op := Op.load 23 _, type := _, pos := _, after := _, guard := _ } :: _) _); refine wpStill_load_blk rfl 23 _ rfl A rfl 23 _ _ HA6.out Tryd.underlying23 rfl HS23.out ?_)
        | ((with_reducible show wpStill _ _ _ _ ({ dst := _, op := Op.load 29 _, type := _, pos := _, after := _, guard := _ } :: _) _); refine wpStill_load_blk rfl 29 _ rfl L rfl 29 _ _ HL6.out Tryd.underlying29 rfl SN.out ?_)
        | still_step)
      refine wpStill_nil ?_
      go_wp2_with (at_mapUpdate; refine wpList_tile_put rfl _ _ _ _ rfl rfl rfl HM6.out (by have := hmx.out; omega) (lv1 : Int) (j : Int) rfl (by unfold inI; omega) (by unfold inI; omega) N rfl ?_; intro w7 hm7 hg7)
      go_frame
      have H7 : Two g b w6 w7 := Two.ofG hg7
      go_roundw
      case rel =>
        refine ⟨lv1, j, by rw [← Hn.out]; exact hupp.out.1, ?_, H7.blk HA6.out nAg nAb, (hg7.block g Hg6.out.lt (fun e => by injection e with e; exact hne e.symm)).trans Hg6.out, ⟨m + 1, by have := Hm0.out; have := Hlv1.out; omega, hm7.congr fun a c _ _ => ?_⟩, H26.out.trans H7⟩
        · rw [HNe.out]; exact H7.blk HL6.out nLg nLb
        · exact Hsuc.out a c
      case measure =>
        have e1 := cellN_of ((H7.blk HA6.out nAg nAb).cell 1)
        have e2 := cellN_of (MEAS.out.cell 1)
        rw [e1, e2]
        omega
    · have hd : ((i : Int) % 2 == 1) = false := by rw [beq_eq_false_iff_ne]; omega
      have f1 := Hg.out.free 1
      go_wp2_with fail
      go_ret
      have hB : Two g b w (wr.setCell ⟨g, 1, none⟩ (.int .i64 ((n : Int) + 1))) := H2.out.trans (Two.setCell wr 1 _)
      have hlen : (l ++ [x]).length = n + 1 := by rw [List.length_append, Hn.out]; rfl
      refine ⟨rfl, ⟨?_, ⟨m, ?_, ?_⟩, H32.out, by omega⟩, hB⟩
      · have := Hg.out.setCell 1 (.int .i64 ((n : Int) + 1))
        rw [hlen]
        simpa using this
      · have := Hm0.out; omega
      · refine (HM.out.congr fun a c _ _ => addZ_end l x lv i (by rw [Hn.out]; exact Hi.out) (by omega) a c).later ?_
        exact RowKit.Below.heap_setCell _ _ _ _ hne
end Go.Proofs.YtbpjlancjdbehaaDoor
