/- What the listed variables give the walks: the two tables of the hash. -/
import Derived.Test.YtbpjlancjdbehaaDoorQShaSum
import Derived.Test.YtbpjlancjdbehaaDoorRows
import Derived.Test.YtbpjlancjdbehaaDoorChecked
import Derived.Lib.LaidTab
import Derived.LaidMore
import Derived.OpenShut
import Derived.Stop.Joined
import Derived.Stop.LaidErr
set_option maxRecDepth 100000
namespace Go.Proofs.YtbpjlancjdbehaaDoor
open Go.ChangeShapes Go.WideShapes Go.ChangeAt Go.RowKit Go.Spec
def laidSha {H : Type} : List (String × DataW H) := [("speculum/sha.first", Rows.laid_speculum_sha_first), ("speculum/sha.rounds", Rows.laid_speculum_sha_rounds)]
theorem Tryd.own : ownKnob Tryd.prog.godebug = none := by kernel_rfl
theorem Tryd.laidOut : laidOutB Tryd.prog = true := by kernel_rfl
theorem gFirst : Tryd.prog.globalNamed "speculum/sha.first" = some 0 := by kernel_rfl
theorem gRounds : Tryd.prog.globalNamed "speculum/sha.rounds" = some 1 := by kernel_rfl
theorem tFirst : (Tryd.prog.globals[0]?).map (·.type) = some 105 := by kernel_rfl
theorem tRounds : (Tryd.prog.globals[1]?).map (·.type) = some 130 := by kernel_rfl
theorem cU32 : Tryd.prog.cellsOf 104 = 1 := by kernel_rfl
theorem c8 : Tryd.prog.cellsOf 105 = 8 := by kernel_rfl
theorem c64 : Tryd.prog.cellsOf 130 = 64 := by kernel_rfl
theorem door_met (os : Os) (args : Array Value) : laidMetH Tryd.prog laidSha ((World.doorLaid Tryd.prog 19 os).forCall (fun _ _ => 0) ⟨#[], args, []⟩).memory :=
  laidMetH_of_parts3 (fuel := 8) (laidMet_of_run' 8 (by kernel_rfl) (by kernel_rfl)) (by kernel_rfl) (by kernel_rfl)
theorem firstData {H : Type} : (Rows.laid_speculum_sha_first : DataW H) = Lib.tabData .u32 (v0.l.map fun n : Nat => (n : Int)) := rfl
theorem roundsData {H : Type} : (Rows.laid_speculum_sha_rounds : DataW H) = Lib.tabData .u32 (rK.map fun n : Nat => (n : Int)) := rfl
theorem tab_of {W : World} {name : String} {g : Nat} {ns : List Nat} (h : Lib.TabIs Tryd.prog W name .u32 (ns.map fun n : Nat => (n : Int))) (hg : Tryd.prog.globalNamed name = some g) (hn : 0 < ns.length) : Tab W g ns := by
  have hc : ∀ i, i < ns.length → W.cell? ⟨g, i, none⟩ = some (.int .u32 (ns.getD i 0 : Nat)) := fun i hi => by
    have := h.cell hg i (by simpa using hi)
    rw [this, List.getD_eq_getElem?_getD, List.getD_eq_getElem?_getD, List.getElem?_map, List.getElem?_eq_getElem hi]
    rfl
  exact ⟨World.block_lt_of_cell? W _ (hc 0 hn), hc⟩
theorem sha_of_laid {W : World} (h : laidMetH Tryd.prog laidSha W) : ShaG W := by
  rw [MakeChecks.laidMetH_plain _ _ _ (by kernel_rfl)] at h
  have h1 : laidMet Tryd.prog (("speculum/sha.first", Lib.tabData .u32 (v0.l.map fun n : Nat => (n : Int))) :: [("speculum/sha.rounds", Rows.laid_speculum_sha_rounds)]) W := h
  have h2 : laidMet Tryd.prog (("speculum/sha.rounds", Lib.tabData .u32 (rK.map fun n : Nat => (n : Int))) :: []) W := h1.tail
  exact ⟨tab_of (Lib.tabIs_of_head gFirst tFirst Tryd.underlying105 Tryd.underlying104 cU32 c8 h1) gFirst (by decide), tab_of (Lib.tabIs_of_head gRounds tRounds Tryd.underlying130 Tryd.underlying104 cU32 c64 h2) gRounds (by decide)⟩
end Go.Proofs.YtbpjlancjdbehaaDoor
/- speculumlaw03.Same (for seats without the rest of codec) -/
namespace Go.Proofs.YtbpjlancjdbehaaDoor
open Go.RowKit Go.Spec
theorem Tryd.guardHash3 : Tryd.prog.eqGuardType Tryd.prog.depth 29 = false := by kernel_rfl
set_option maxHeartbeats 1000000 in
theorem same_any (va vb : Value) (hs1 hs2 : List (List UInt8)) (w : World) (ha : SlAt w 32 va (hcs hs1)) (hb : SlAt w 32 vb (hcs hs2)) (hn : hs1.length ≤ 9223372036854775807) (hn2 : hs2.length ≤ 9223372036854775807) :
    Calls Tryd.prog 20 #[va, vb] w fun e w' => e = .returned (.bool (hs1 == hs2)) ∧ Below w.heap.size w w' := by
  obtain ⟨a, cap, rfl, hcap⟩ := ha.formH
  obtain ⟨b, cap2, rfl, hcap2⟩ := hb.formH
  have Ha := hid ha; have Hb := hid hb
  clear ha hb
  by_cases hl : hs1.length = hs2.length
  · have hd : (((hs1.length : Nat) : Int) != (hs2.length : Int)) = false := by simp [hl]
    rw [hl] at hd hcap hn ⊢
    have HL := hid hl
    clear hl
    go_enter Tryd.func20, Tryd.ntmps20
    go_wp2
    go_loopw [5] (fun i wr => ∃ k : Nat, k ≤ hs2.length ∧ i = .int .i64 k ∧ hs1.take k = hs2.take k ∧ Below w.heap.size w wr) (fun i _ => hs2.length - (intOf i).toNat)
    case atStart => exact ⟨0, by omega, rfl, by simp, Below.refl _ _⟩
    case round =>
      obtain ⟨k, hk, rfl, htk, hbw⟩ := hrel
      have Htk := hid htk
      clear htk
      by_cases hlt : k < hs2.length
      · have hlt2 : k < hs1.length := by rw [HL.out]; exact hlt
        have Ha2 := Ha.out.below hbw (Nat.le_refl _)
        have Hb2 := Hb.out.below hbw (Nat.le_refl _)
        obtain ⟨b1, o1, rfl, hbl1, hcl1, hcell1⟩ := Ha2.at (i := k) (cs := hs1[k].map bcell) (by simp [hcs, hlt2])
        obtain ⟨b2, o2, rfl, hbl2, hcl2, hcell2⟩ := Hb2.at (i := k) (cs := hs2[k].map bcell) (by simp [hcs, hlt])
        have hta := hid (show hs1.take (k + 1) = hs1.take k ++ [hs1[k]] from List.take_succ_eq_append_getElem hlt2)
        have htb := hid (show hs2.take (k + 1) = hs2.take k ++ [hs2[k]] from List.take_succ_eq_append_getElem hlt)
        have hne := hid (show hs1[k] ≠ hs2[k] → hs1 ≠ hs2 from fun h h2 => h (by subst h2; rfl))
        generalize hs1[k] = x at *
        generalize hs2[k] = y at *
        have hx : x.length = 32 := by simpa using hcl1
        have hy : y.length = 32 := by simpa using hcl2
        have Hsx := hid (show (Tryd.prog.info? 29).map (·.size) = some x.length by rw [hx]; exact Tryd.sizeHash)
        have Hsy := hid (show (Tryd.prog.info? 29).map (·.size) = some y.length by rw [hy]; exact Tryd.sizeHash)
        have hs5 := Tryd.sizeU8
        have hge := Tryd.guardHash3
        have Hc1 := hid hcell1; have Hc2 := hid hcell2
        clear hcell1 hcell2 hcl1 hcl2 Ha2 Hb2
        by_cases hxy : x = y
        · have hq : (x == y) = true := by simpa using hxy
          have Hxy := hid hxy
          clear hxy
          go_wp2_with fail
          refine wp_region_later (by kernel_rfl) (by kernel_rfl) ?_

          repeat (first
            | (refine wpQuiet_load_hc rfl 29 _ rfl ⟨b1, o1 + k * 32, none⟩ rfl x _ (by rintro _ ⟨q, rfl⟩; exact lat_cells q hbl1 Hc1.out) Tryd.underlying29 rfl Hsx.out ?_; simp only [Act.put, List.setIfInBounds_toArray, List.set_cons_succ, List.set_cons_zero])
            | (refine wpQuiet_load_hc rfl 29 _ rfl ⟨b2, o2 + k * 32, none⟩ rfl y _ (by rintro _ ⟨q, rfl⟩; exact lat_cells q hbl2 Hc2.out) Tryd.underlying29 rfl Hsy.out ?_; simp only [Act.put, List.setIfInBounds_toArray, List.set_cons_succ, List.set_cons_zero])
            | go_big_quiet_step (fail))
          refine wpQuiet_nil ?_
          rintro _ ⟨q, rfl⟩
          have hb3 := lat_below q
          generalize lat q = w2 at *
          go_wp2
          go_roundw
          case rel => exact ⟨k + 1, by omega, by go_num, by rw [hta.out, htb.out, Htk.out, Hxy.out], hbw.trans (hb3.mono hbw.size)⟩
          case measure => simp [intOf]; omega
        · have hq : (x == y) = false := by simpa using hxy
          have Hfin := hid (show (hs1 == hs2) = false by simpa using hne.out hxy)
          clear hxy
          go_wp2_with fail
          refine wp_region_later (by kernel_rfl) (by kernel_rfl) ?_

          repeat (first
            | (refine wpQuiet_load_hc rfl 29 _ rfl ⟨b1, o1 + k * 32, none⟩ rfl x _ (by rintro _ ⟨q, rfl⟩; exact lat_cells q hbl1 Hc1.out) Tryd.underlying29 rfl Hsx.out ?_; simp only [Act.put, List.setIfInBounds_toArray, List.set_cons_succ, List.set_cons_zero])
            | (refine wpQuiet_load_hc rfl 29 _ rfl ⟨b2, o2 + k * 32, none⟩ rfl y _ (by rintro _ ⟨q, rfl⟩; exact lat_cells q hbl2 Hc2.out) Tryd.underlying29 rfl Hsy.out ?_; simp only [Act.put, List.setIfInBounds_toArray, List.set_cons_succ, List.set_cons_zero])
            | go_big_quiet_step (fail))
          refine wpQuiet_nil ?_
          rintro _ ⟨q, rfl⟩
          have hb3 := lat_below q
          generalize lat q = w2 at *
          go_wp2
          go_ret
          exact ⟨by rw [Hfin.out]; rfl, hbw.trans (hb3.mono hbw.size)⟩
      · have hke : k = hs2.length := by omega
        subst hke
        have Hfin := hid (show (hs1 == hs2) = true by
          have := Htk.out
          rw [List.take_length, ← HL.out, List.take_length] at this
          simpa using this)
        go_wp2
        go_ret
        exact ⟨by rw [Hfin.out]; rfl, hbw⟩
  · have hd : (((hs1.length : Nat) : Int) != (hs2.length : Int)) = true := by simp; omega
    have Hfin := hid (show (hs1 == hs2) = false by simpa using fun h : hs1 = hs2 => hl (by rw [h]))
    clear hl
    go_enter Tryd.func20, Tryd.ntmps20
    go_wp2
    go_ret
    exact ⟨by rw [Hfin.out]; rfl, Below.refl _ _⟩
end Go.Proofs.YtbpjlancjdbehaaDoor
/- speculumlaw04.Some -/
namespace Go.Proofs.YtbpjlancjdbehaaDoor
open Go.RowKit Go.Spec
def someH (seed : UInt8) (i : Nat) : List UInt8 := [seed, UInt8.ofNat (i % 256), UInt8.ofNat (i / 256 % 256), 1] ++ List.replicate 28 0
def someL (seed : UInt8) (n : Nat) : List (List UInt8) := (List.range n).map (someH seed)
theorem someH_len (seed : UInt8) (i : Nat) : (someH seed i).length = 32 := by simp [someH]
theorem someL_len (seed : UInt8) (n : Nat) : (someL seed n).length = n := by simp [someL]
theorem someL_next (seed : UInt8) (n : Nat) : someL seed (n + 1) = someL seed n ++ [someH seed n] := by simp [someL, List.range_succ]
theorem Tryd.infoHash : (Tryd.prog.info? 29).map (fun i => (i.zero, i.size, i.bytes)) = some (some (hv zero32), 32, 32) := by kernel_rfl
theorem Tryd.infoHash2 : (Tryd.prog.info? 29).map (fun i => (i.zero, i.size)) = some (some (hv zero32), 32) := by kernel_rfl
theorem some_cells (seed : UInt8) (i : Nat) : ([Value.int .u8 (seed.toNat : Int), .int .u8 ((i : Int) % 256), .int .u8 ((i : Int) / 256 % 256), .int .u8 1] ++ List.replicate 28 (.int .u8 0)) = (someH seed i).map bcell := by
  have e1 : Value.int .u8 ((i : Int) % 256) = bcell (UInt8.ofNat (i % 256)) := by rw [← bcell_mk _ (by omega)]; congr 1
  have e2 : Value.int .u8 ((i : Int) / 256 % 256) = bcell (UInt8.ofNat (i / 256 % 256)) := by rw [← bcell_mk _ (by omega)]; congr 1
  rw [e1, e2]
  unfold someH
  generalize UInt8.ofNat (i % 256) = p
  generalize UInt8.ofNat (i / 256 % 256) = q
  simp [bcell]
set_option maxHeartbeats 1000000 in
theorem some_any (seed : UInt8) (n : Nat) (w : World) (hn : n ≤ 1000000) :
    Calls Tryd.prog 39 #[.int .i64 (n : Int), .int .u8 (seed.toNat : Int)] w fun e w' => ∃ v, e = .returned v ∧ w'.ownsRow w.heap.size 29 32 v n (hflat (someL seed n)) ∧ Below w.heap.size w w' := by
  obtain ⟨i0, hi, hz0, hz1, hz2⟩ := info_parts Tryd.infoHash
  go_enter Tryd.func39, Tryd.ntmps39
  go_wp2
  go_loopw [5, 6] (fun v i wr => ∃ k : Nat, k ≤ n ∧ i = .int .i64 (k : Int) ∧ wr.ownsRow w.heap.size 29 32 v k (hflat (someL seed k)) ∧ Below w.heap.size w wr) (fun _ i _ => n - (intOf i).toNat)
  case atStart => exact ⟨0, by omega, rfl, World.ownsRow_nil _ _ _ _, Below.refl _ _⟩
  case round =>
    obtain ⟨k, hk, rfl, hown, hb⟩ := hrel
    by_cases hlt : k < n
    · have hd : decide (k < n) = true := by simpa using hlt
      have Hnext := hid (someL_next seed k)
      have Hag := hid (some_cells seed k)
      have HL := hid (someH_len seed k)
      generalize someH seed k = L at *
      generalize hM : hflat (someL seed k) = M at *
      have HM := hid hM; clear hM
      go_wp2_with (first
        | (at_builtin; go_must (refine wpList_app rfl _ _ 22 rfl w.heap.size 29 i0 (hv zero32) 32 32 Tryd.underlying22 hi hz0 hz1 hz2 rfl (by decide) _ k M rfl ?c1 ⟨wr.heap.size, 0, none⟩ 1 1 (L.map bcell) rfl ?c2 ?c3 ?c4 ?c5 ?c6 ?c7 ?_)))
      case c1 => exact hown.alloc _
      case c2 => simp [HL.out]
      case c3 =>
        intro j u hj
        have hcs := Hag.out
        have hx := (Blk.new wr ([Value.int .u8 (seed.toNat : Int), .int .u8 ((k : Int) % 256), .int .u8 ((k : Int) / 256 % 256), .int .u8 1] ++ List.replicate 28 (Value.int .u8 0)).toArray 29).cells j u (by rw [List.toList_toArray, hcs]; exact hj)
        exact hx
      case c4 => exact bcell_one L
      case c5 => unfold maxLen; omega
      case c6 => omega
      case c7 => have := hb.size; simp; omega
      intro v' w5 hown' hgrow hat
      go_wp2
      go_roundw
      case rel =>
        refine ⟨k + 1, by omega, by go_num, ?_, ?_⟩
        · rw [Hnext.out, hflat_snoc, HM.out]; exact hown'
        · exact (hb.alloc hb.size _).grown hgrow (by have := hb.size; simp; omega) (fun q hq => (hown.lt q hq).1)
      case measure => simp [intOf]; omega
    · obtain rfl : k = n := by omega
      have hd : decide (k < k) = false := by simp
      go_wp2
      go_ret
      exact ⟨_, rfl, hown, hb⟩
theorem someL_32 (seed : UInt8) (n : Nat) : ∀ x ∈ someL seed n, x.length = 32 := by
  intro x hx
  unfold someL at hx
  obtain ⟨i, _, rfl⟩ := List.mem_map.mp hx
  exact someH_len seed i
theorem some_sl (seed : UInt8) (n : Nat) (w : World) (hn : n ≤ 1000000) :
    Calls Tryd.prog 39 #[.int .i64 (n : Int), .int .u8 (seed.toNat : Int)] w fun e w' => ∃ v, e = .returned v ∧ SlAt w' 32 v (hcs (someL seed n)) ∧ Below w.heap.size w w' :=
  (some_any seed n w hn).mono fun _ _ ⟨v, he, hown, hb⟩ => ⟨v, he, SlAt.of_owns (size := 32) (hs := someL seed n) (by rw [someL_len]; exact hown) (someL_32 seed n), hb⟩
end Go.Proofs.YtbpjlancjdbehaaDoor
