/- lamport.Sign -/
import Derived.Test.YtchpoggegdocpaaDoorLamLeaf
import Derived.Test.YtchpoggegdocpaaDoorLamBit
set_option maxRecDepth 100000
namespace Go.Proofs.YtchpoggegdocpaaDoor
open Go.RowKit Go.Spec
def sec1 (seed : List UInt8) (a : Nat) (d : List UInt8) (n : Nat) : List UInt8 := (List.range n).flatMap fun i => secN seed a i (bitL d i)
def oth1 (seed : List UInt8) (a : Nat) (d : List UInt8) (n : Nat) : List UInt8 := (List.range n).flatMap fun i => pubN seed a (2 * i + 1 - bitL d i)
def signL (seed : List UInt8) (a : Nat) (d : List UInt8) : List UInt8 := sec1 seed a d 256 ++ oth1 seed a d 256
theorem sec1_next (seed : List UInt8) (a : Nat) (d : List UInt8) (n : Nat) : sec1 seed a d (n + 1) = sec1 seed a d n ++ secN seed a n (bitL d n) := by simp [sec1, List.range_succ]
theorem oth1_next (seed : List UInt8) (a : Nat) (d : List UInt8) (n : Nat) : oth1 seed a d (n + 1) = oth1 seed a d n ++ pubN seed a (2 * n + 1 - bitL d n) := by simp [oth1, List.range_succ]
theorem sec1_len (seed : List UInt8) (a : Nat) (d : List UInt8) : ∀ n, (sec1 seed a d n).length = n * 32
  | 0 => rfl
  | n + 1 => by rw [sec1_next, List.length_append, sec1_len seed a d n, secN_len]; omega
theorem oth1_len (seed : List UInt8) (a : Nat) (d : List UInt8) : ∀ n, (oth1 seed a d n).length = n * 32
  | 0 => rfl
  | n + 1 => by rw [oth1_next, List.length_append, oth1_len seed a d n]; unfold pubN; rw [shownL_len]; omega
set_option maxHeartbeats 1000000 in
theorem sign_out (seed d : List UInt8) (x : Int) (w : World) (h : x < 0 ∨ 2147483648 ≤ x) :
    Calls Tryd.prog 18 #[sv seed, .int .i64 x, hv d] w fun e w' => e = .returned (sv []) ∧ Below w.heap.size w w' := by
  have P := hid (fun w0 => public_out seed x w0 h)
  clear h
  have hnil := fun (w0 : World) (a : Option Addr) (n c : Nat) => Lib.run_eql_slice_nil (P := Tryd.prog) w0 49 42 a n c 0 0 Tryd.underlying49
  go_enter Tryd.func18, Tryd.ntmps18
  go_wp2_with (go_at_call 26; refine (P.out _).mono ?_; rintro e w1 ⟨rfl, rfl⟩)
  go_ret
  exact ⟨rfl, (Below.refl _ _).alloc (Nat.le_refl _) _⟩
set_option maxHeartbeats 4000000 in
theorem sign_in (seed d : List UInt8) (a : Nat) (w : World) (hs : seed.length ≤ 1000000) (hdl : d.length = 32) (hia : a < 2147483648) (hG : ShaG w) :
    Calls Tryd.prog 18 #[sv seed, .int .i64 (a : Int), hv d] w fun e w' => e = .returned (sv (signL seed a d)) ∧ Below w.heap.size w w' := by
  have HG := hid hG; clear hG
  have hnil := fun (w0 : World) (a : Option Addr) (n c : Nat) => Lib.run_eql_slice_nil (P := Tryd.prog) w0 49 42 a n c 0 0 Tryd.underlying49
  have HA : Below w.heap.size w (w.alloc (.cells (hc d) 42)) := (Below.refl _ w).alloc (Nat.le_refl _) _
  have hBd : Blk (w.alloc (.cells (hc d) 42)) w.heap.size (hc d) 42 := Blk.new _ _ _
  have P := hid (fun w0 h0 => public_in seed a w0 hs hia h0)
  have Hsd := hid (show (Tryd.prog.info? 42).map (·.size) = some (hc d).size by rw [hc_size, hdl]; exact Tryd.sizeHash)
  have Hd := hid (fun w0 => hash_any d w0 hdl)
  go_enter Tryd.func18, Tryd.ntmps18
  go_upto_region 5 with (first
    | (go_at_call 26; refine (P.out _ (HG.out.later HA)).mono ?_; rintro e w1 ⟨⟨gp, rfl, hP, hgp⟩, hb1⟩)
    | ((with_reducible show wpList _ _ _ ({ dst := _, op := Op.load 42 _, type := _, pos := _, after := _, guard := _ } :: _) _ _); refine wpList_load_blk rfl 42 _ rfl w.heap.size rfl _ (hc d) _ (hBd.later hb1) Tryd.underlying42 rfl Hsd.out ?_)
    | (go_at_call 36; refine (Hd.out _).mono ?_; rintro e w2 ⟨rfl, hb2⟩))
  have HB2 := bth (bth HA hb1) hb2
  have hP2 := hP.later hb2
  clear hP hBd hb1 hb2 HA hgp
  go_upto_region 6 with fail
  show Code.wp _ _ _ _ ((w2.alloc (.cells #[.pointer none, .slice none 0 0] 66)).alloc (.cells #[.pointer none, .slice none 0 0] 66))
  have hA1 : Bld w2.heap.size none [] ((w2.alloc (.cells #[.pointer none, .slice none 0 0] 66)).alloc (.cells #[.pointer none, .slice none 0 0] 66)) := (IsB.fresh 66 5 w2).below ((Below.refl _ _).alloc (Nat.le_refl _) _)
  have hA2 : Bld (w2.heap.size + 1) none [] ((w2.alloc (.cells #[.pointer none, .slice none 0 0] 66)).alloc (.cells #[.pointer none, .slice none 0 0] 66)) := by
    have := IsB.fresh 66 5 (w2.alloc (.cells #[.pointer none, .slice none 0 0] 66))
    simpa using this
  have hb0 : Below w2.heap.size w2 ((w2.alloc (.cells #[.pointer none, .slice none 0 0] 66)).alloc (.cells #[.pointer none, .slice none 0 0] 66)) := ((Below.refl _ w2).alloc (Nat.le_refl _) _).alloc (by simp) _
  have hP0 := hP2.later hb0
  have HB0 := hid (bth HB2 hb0)
  generalize ((w2.alloc (.cells #[.pointer none, .slice none 0 0] 66)).alloc (.cells #[.pointer none, .slice none 0 0] 66)) = w0 at *
  have hgw : w.heap.size ≤ w2.heap.size := HB2.size
  have hgp2 := hP2.1.lt
  generalize hg : w2.heap.size = g at *
  clear hg hP2 hb0 HB2
  have HP0 := hid hP0; clear hP0
  have HA1 := hid hA1; have HA2 := hid hA2; clear hA1 hA2
  go_wp2_with fail
  go_loopw [20] (fun i wr => ∃ (k : Nat) (r1 r2 : Option Nat), k ≤ 256 ∧ i = .int .i64 (k : Int) ∧ Bld g r1 (sec1 seed a d k) wr ∧ Bld (g + 1) r2 (oth1 seed a d k) wr ∧ (∀ j, r1 = some j → r2 ≠ some j ∧ g + 1 < j) ∧ (∀ j, r2 = some j → g + 1 < j) ∧ Below g w0 wr) (fun i _ => 256 - (intOf i).toNat)
  case atStart => exact ⟨0, none, none, by omega, rfl, HA1.out, HA2.out, (fun j h => by cases h), (fun j h => by cases h), Below.refl _ _⟩
  case round =>
    obtain ⟨k, r1, r2, hk, rfl, hB1, hB2, hr1, hr2, hb⟩ := hrel
    clear HA1 HA2
    have HB1 := hid hB1; have HB2 := hid hB2; have Hr1 := hid hr1; have Hr2 := hid hr2
    clear hB1 hB2 hr1 hr2
    have Hbw := hid (HB0.out.trans (hb.mono hgw))
    have hl1 := sec1_len seed a d k
    have hl2 := oth1_len seed a d k
    by_cases hlt : k < 256
    · have hdk : decide ((k : Int) < 256) = true := by simp; omega
      have hbl := bitL_lt d k
      have HBit := hid (fun w0 => bit_any d k w0 hdl hlt)
      have N1 := hid (sec1_next seed a d k)
      have N2 := hid (oth1_next seed a d k)
      generalize bitL d k = bt at *
      obtain ⟨m, hm⟩ : ∃ m, 2 * k + 1 - bt = m := ⟨_, rfl⟩
      have em : 2 * (k : Int) + 1 - (bt : Int) = (m : Int) := by omega
      have hm5 : m < 512 := by omega
      rw [hm] at N2
      have S := hid (fun w0 h0 => secret_in seed a k bt w0 hs hia hlt (by omega) h0)
      have HX := hid (secN_len seed a k bt)
      have HH1 := hid (fun w0 => hash_any (secN seed a k bt) w0 (secN_len _ _ _ _))
      have HY := hid (show (pubN seed a m).length = 32 from shownL_len _)
      have HH2 := hid (fun w0 => hash_any (pubN seed a m) w0 HY.out)
      have Hsy := hid (show (Tryd.prog.info? 42).map (·.size) = some (pubN seed a m).length by rw [HY.out]; exact Tryd.sizeHash)
      have Hpm := hid (show (pubs seed a 512)[m]? = some (pubN seed a m) by unfold pubs; rw [List.getElem?_map, List.getElem?_range hm5]; rfl)
      have hl1b : (sec1 seed a d k).length ≤ 10000 := by omega
      have hl2b : (oth1 seed a d k).length ≤ 10000 := by omega
      clear hl1 hl2 hm
      generalize secN seed a k bt = X at *
      generalize pubN seed a m = Y at *
      generalize sec1 seed a d k = L1 at *
      generalize oth1 seed a d k = L2 at *
      go_wp2_with (first
        | (go_at_call 37; refine (HBit.out _).mono ?_; rintro e w7 ⟨rfl, rfl⟩)
        | (go_at_call 20; refine (S.out _ (HG.out.later Hbw.out)).mono ?_; rintro e w3 ⟨rfl, hb3⟩)
        | (go_at_call 36; refine (HH1.out _).mono ?_; rintro e w4 ⟨rfl, hb4⟩))
      have hA := bth hb3 hb4
      have hC := HB1.out.below hA
      refine (ws_any g r1 L1 X _ hC (by rw [HX.out]; omega)).mono ?_
      rintro e w5 ⟨rfl, hw5⟩
      obtain ⟨r3, hC1, hr3⟩ := hw5.ex
      have hne1 : ¬ (g + 1 = g ∨ r1 = some (g + 1)) := by
        rintro (h | h)
        · omega
        · have := (Hr1.out _ h).2; omega
      have hne2 : ∀ j, r2 = some j → ¬ (j = g ∨ r1 = some j) := by
        intro j hj
        rintro (h | h)
        · have := Hr2.out j hj; omega
        · exact (Hr1.out _ h).1 hj
      have hC2 := (HB2.out.below hA).kept hw5.fr hne1 hne2
      clear hne1 hne2
      have hb5 := (hb.trans (hA.mono (Nat.le_of_lt HB1.out.lt))).trans (hw5.below hC)
      have hcell : ∀ j u, (Y.map bcell)[j]? = some u → w5.cell? ((⟨gp, m * 32, none⟩ : Addr).add j) = some u := by
        have hsl := HsBlk.sl (w := w5) (g := gp) (hs := pubs seed a 512) (t := 42) ⟨HP0.out.1.below hb5 hgp2, HP0.out.2⟩ (by rw [pubs_len]; decide)
        obtain ⟨b, o, e1, _, _, h3⟩ := hsl.at (i := m) (cs := Y.map bcell) (by unfold hcs; rw [List.getElem?_map, Hpm.out]; rfl)
        injection e1 with e1
        injection e1 with e2 e3
        subst e2; subst e3
        rw [Nat.zero_add] at h3
        exact h3
      have Hcell := hid hcell
      have Hb5 := hid hb5
      have HC1 := hid hC1; have HC2 := hid hC2
      have Hr3 := hid (show ∀ j, r3 = some j → r2 ≠ some j ∧ g + 1 < j by
        intro j hj
        have hg4 : g + 1 < w4.heap.size := (HB2.out.below hA).lt
        rcases hr3 j hj with h | h
        · exact Hr1.out j h
        · refine ⟨fun h2 => ?_, by omega⟩
          have := ((HB2.out.below hA).row j h2).2
          omega)
      clear hcell hb5 hC1 hC2 hC hw5 hr3 hb3 hb4 hA
      go_wp2_with (first
        | (refine wpList_load_hc rfl 42 _ rfl ⟨gp, m * 32, none⟩ rfl Y _ Hcell.out Tryd.underlying42 rfl Hsy.out ?_)
        | (go_at_call 36; refine (HH2.out _).mono ?_; rintro e w6 ⟨rfl, hb6⟩))
      have hC6 := HC2.out.below hb6
      refine (ws_any (g + 1) r2 L2 Y _ hC6 (by rw [HY.out]; omega)).mono ?_
      rintro e w8 ⟨rfl, hw8⟩
      obtain ⟨r4, hD2, hr4⟩ := hw8.ex
      have hne1 : ¬ (g = g + 1 ∨ r2 = some g) := by
        rintro (h | h)
        · omega
        · have := Hr2.out _ h; omega
      have hne2 : ∀ j, r3 = some j → ¬ (j = g + 1 ∨ r2 = some j) := by
        intro j hj
        rintro (h | h)
        · have := (Hr3.out j hj).2; omega
        · exact (Hr3.out j hj).1 h
      have hD1 := (HC1.out.below hb6).kept hw8.fr hne1 hne2
      have hg6 : g + 1 < w6.heap.size := hC6.lt
      have Hc1 := hid (show ∀ j, r3 = some j → r4 ≠ some j ∧ g + 1 < j by
        intro j hj
        refine ⟨fun h4 => ?_, (Hr3.out j hj).2⟩
        rcases hr4 j h4 with h | h
        · exact (Hr3.out j hj).1 h
        · have := ((HC1.out.below hb6).row j hj).2; omega)
      have Hc2 := hid (show ∀ j, r4 = some j → g + 1 < j by
        intro j hj
        rcases hr4 j hj with h | h
        · exact Hr2.out j h
        · omega)
      have Hb8 := hid ((Hb5.out.trans (hb6.mono (Nat.le_of_lt HC1.out.lt))).trans ((hw8.below hC6).mono (show g ≤ g + 1 by omega)))
      clear hne1 hne2 hr4 hw8 hb6 hC6
      go_wp2
      go_roundw
      case rel => exact ⟨k + 1, r3, r4, by omega, by go_num, by rw [N1.out]; exact hD1, by rw [N2.out]; exact hD2, Hc1.out, Hc2.out, Hb8.out⟩
      case measure => simp [intOf]; omega
    · obtain rfl : k = 256 := by omega
      have hdk : decide ((256 : Int) < 256) = false := by decide
      have hfin : signL seed a d = sec1 seed a d 256 ++ oth1 seed a d 256 := rfl
      have Hfin := hid hfin
      clear hfin
      generalize sec1 seed a d 256 = L1 at *
      generalize oth1 seed a d 256 = L2 at *
      have h1 : L1 ≠ [] := by intro h; rw [h] at hl1; simp at hl1
      have h2 : L2 ≠ [] := by intro h; rw [h] at hl2; simp at hl2
      have H1 := hid h1; have H2 := hid h2
      have hl1b : L1.length ≤ 10000 := by omega
      have hl2b : L2.length ≤ 10000 := by omega
      clear hl1 hl2 h1 h2
      go_wp2_with fail
      refine (bstring_any _ _ _ _ HB1.out H1.out).mono ?_
      rintro e w4 ⟨rfl, hw4⟩
      have hB2 := HB2.out.kept hw4 (fun h => by have := (Hr1.out _ h).2; omega) (fun j hj h => (Hr1.out _ h).1 hj)
      have hb4 := hw4.below (B := g) (Nat.le_of_lt HB1.out.lt) (fun j hj => by have := (Hr1.out _ hj).2; omega)
      go_wp2_with fail
      refine (bstring_any _ _ _ _ hB2 H2.out).mono ?_
      rintro e w5 ⟨rfl, hw5⟩
      have hb5 := hw5.below (B := g) (Nat.le_trans (Nat.le_succ g) (Nat.le_of_lt hB2.lt)) (fun j hj => by have := Hr2.out _ hj; omega)
      go_wp2
      go_ret
      exact ⟨by rw [Hfin.out]; rfl, (Hbw.out.trans (hb4.mono hgw)).trans (hb5.mono hgw)⟩
end Go.Proofs.YtchpoggegdocpaaDoor
