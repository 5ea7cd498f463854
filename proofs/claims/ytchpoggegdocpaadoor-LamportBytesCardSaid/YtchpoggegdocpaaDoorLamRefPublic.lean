/- speculumref08.Public -/
import Derived.Test.YtchpoggegdocpaaDoorLamPublic
import Derived.Test.YtchpoggegdocpaaDoorBsAt
import Derived.Test.YtchpoggegdocpaaDoorBuilder2
set_option maxRecDepth 100000
namespace Go.Proofs.YtchpoggegdocpaaDoor
open Go.RowKit Go.Spec
theorem Tryd.infoHashP2 : (Tryd.prog.info? 42).map (fun i => (i.zero, i.size)) = some (some (hv zero32), 32) := by kernel_rfl
theorem pubN_two (seed : List UInt8) (a k m : Nat) (hm : m < 2) : pubN seed a (2 * k + m) = shownL (secN seed a k m) := by
  unfold pubN
  rw [show (2 * k + m) / 2 = k by omega, show (2 * k + m) % 2 = m by omega]
set_option maxHeartbeats 1000000 in
theorem rpublic_out (seed : List UInt8) (x : Int) (w : World) (h : x < 0 ∨ 2147483648 ≤ x) :
    Calls Tryd.prog 24 #[sv seed, .int .i64 x] w fun e w' => e = .returned (.slice none 0 0) ∧ w = w' := by
  by_cases h0 : x < 0
  · have d0 : decide (x < 0) = true := by simpa using h0
    clear h
    go_enter Tryd.func24, Tryd.ntmps24
    go_wp2
    go_ret
    exact ⟨rfl, rfl⟩
  · have d0 : decide (x < 0) = false := by simpa using h0
    have d1 : decide (2147483647 < x) = true := by simp; omega
    clear h
    go_enter Tryd.func24, Tryd.ntmps24
    go_wp2
    go_ret
    exact ⟨rfl, rfl⟩
set_option maxHeartbeats 4000000 in
theorem rpublic_in (seed : List UInt8) (a : Nat) (w : World) (hs : seed.length ≤ 1000000) (hia : a < 2147483648) :
    Calls Tryd.prog 24 #[sv seed, .int .i64 (a : Int)] w fun e w' => (∃ v, e = .returned v ∧ w'.ownsRow w.heap.size 42 32 v 512 (hflat (pubs seed a 512))) ∧ Below w.heap.size w w' := by
  obtain ⟨i0, hi, hz0, hz1, hz2⟩ := info_parts Tryd.infoHashP
  have d0 : decide ((a : Int) < 0) = false := by simp
  have d1 : decide ((2147483647 : Int) < (a : Int)) = false := by simp; omega
  go_enter Tryd.func24, Tryd.ntmps24
  go_wp2
  go_loopw [5, 6] (fun v i wr => ∃ k : Nat, k ≤ 256 ∧ i = .int .i64 (k : Int) ∧ wr.ownsRow w.heap.size 42 32 v (2 * k) (hflat (pubs seed a (2 * k))) ∧ Below w.heap.size w wr) (fun _ i _ => 256 - (intOf i).toNat)
  case atStart => exact ⟨0, by omega, rfl, World.ownsRow_nil _ _ _ _, Below.refl _ _⟩
  case round =>
    obtain ⟨k, hk, rfl, hown, hb⟩ := hrel
    by_cases hlt : k < 256
    · have hd : decide ((k : Int) < 256) = true := by simp; omega
      obtain ⟨wo, hwo⟩ : ∃ wo : World, wo = wr := ⟨_, rfl⟩
      rw [← hwo]
      have hown' := hown
      rw [← hwo] at hown'
      have hb' : Below w.heap.size w wo := by rw [hwo]; exact hb
      clear hown hb hwo
      go_wp2
      go_loopw [5, 7] (fun v i wr => ∃ m : Nat, m ≤ 2 ∧ i = .int .i64 (m : Int) ∧ wr.ownsRow w.heap.size 42 32 v (2 * k + m) (hflat (pubs seed a (2 * k + m))) ∧ Below w.heap.size w wr) (fun _ i _ => 2 - (intOf i).toNat)
      case atStart => exact ⟨0, by omega, rfl, hown', hb'⟩
      case round =>
        obtain ⟨m, hm, rfl, hown, hb⟩ := hrel
        clear hown' hb'
        by_cases hlm : m < 2
        · have hdm : decide ((m : Int) < 2) = true := by simp; omega
          have S := hid (fun w0 => rsecret_in seed a k m w0 hs hia (by omega) (by omega))
          have X32 := hid (secN_len seed a k m)
          have Hpn := hid (pubN_two seed a k m hlm)
          have R := hid (show ∀ w0, Calls Tryd.prog 32 #[sv (3 :: secN seed a k m)] w0 fun e w' => e = .returned (hv (pubN seed a (2 * k + m))) ∧ Below w0.heap.size w0 w' from fun w0 => by
            rw [Hpn.out]; exact rsum_any (3 :: secN seed a k m) w0 (by simp [secN_len]))
          have Y32 := hid (show (pubN seed a (2 * k + m)).length = 32 from shownL_len _)
          have Hnext := hid (pubs_next seed a (2 * k + m))
          have HsX := hid (show (Tryd.prog.info? 42).map (·.size) = some (secN seed a k m).length by rw [secN_len]; exact Tryd.sizeHash)
          clear Hpn
          generalize secN seed a k m = X at *
          generalize pubN seed a (2 * k + m) = Y at *
          generalize hM : hflat (pubs seed a (2 * k + m)) = M at *
          have HM := hid hM; clear hM
          have hxl : X.length ≤ 32 := by rw [X32.out]; omega
          go_upto_region 11 with (first
            | (go_at_call 21; refine (S.out _).mono ?_; rintro e w1 ⟨rfl, hb1⟩)
            | ((with_reducible show wpList _ _ _ ({ dst := _, op := Op.store _ _ _, type := _, pos := _, after := _, guard := _ } :: _) _ _); refine wpList_store_new rfl 42 _ _ rfl rfl X rfl (hc zero32) 42 (by rw [X32.out]; rfl) HsX.out ?_))
          have hown1 := (ownsRow_fr hown (Fr.of_below hb1 (fun _ => False)) (fun _ _ h => h)).alloc (.cells (hc X) 42)
          have HB1 := (bth hb hb1).alloc (bth hb hb1).size (.cells (hc X) 42)
          have hcv := (Blk.new w1 (hc X) 42).convHead (P := Tryd.prog) (k := 32) (n := 32) (by rw [X32.out]; omega) 35 9 5 Tryd.underlying35 Tryd.underlying5 Tryd.underlying9
          rw [List.take_of_length_le (by rw [X32.out]; omega)] at hcv
          have Hown1 := hid hown1
          clear hown hown1 hb hb1
          go_wp2_with (first
            | (go_at_call 32; refine (R.out _).mono ?_; rintro e w2 ⟨rfl, hb2⟩)
            | (refine wpList_buildSlice_one rfl 49 42 _ rfl 32 (hv zero32) (hv Y) (hc Y) rfl Tryd.underlying49 Tryd.infoHashP2 rfl (by rw [hc_size, Y32.out]) (by decide) (by decide) ?_)
            | (at_builtin; go_must (refine wpList_app rfl _ _ 49 rfl w.heap.size 42 i0 (hv zero32) 32 32 Tryd.underlying49 hi hz0 hz1 hz2 rfl (by decide) _ (2 * k + m) M rfl ?c1 ⟨w2.heap.size, 0, none⟩ 1 1 (Y.map bcell) rfl ?c2 ?c3 ?c4 ?c5 ?c6 ?c7 ?_)))
          case c1 => exact (ownsRow_fr Hown1.out (Fr.of_below hb2 (fun _ => False)) (fun _ _ h => h)).alloc _
          case c2 => simp [Y32.out]
          case c3 =>
            intro j u hj
            exact row_alloc (w := w2) (cs := hc Y) (t := 42) (fr := (0, 0)) j u (by rw [hc_toList]; exact hj)
          case c4 => exact bcell_one Y
          case c5 => unfold maxLen; omega
          case c6 => omega
          case c7 => have := (bth HB1 hb2).size; simp; omega
          intro v' w5 hown5 hgrow hat
          go_wp2
          go_roundw
          case rel =>
            refine ⟨m + 1, by omega, by go_num, ?_, ?_⟩
            · rw [show 2 * k + (m + 1) = 2 * k + m + 1 by omega, Hnext.out, hflat_snoc, HM.out]; exact hown5
            · have hb12 := bth HB1 hb2
              exact (hb12.alloc hb12.size _).grown hgrow (by have := hb12.size; simp; omega) (fun q hq => ((ownsRow_fr Hown1.out (Fr.of_below hb2 (fun _ => False)) (fun _ _ h => h)).lt q hq).1)
          case measure => simp [intOf]; omega
        · obtain rfl : m = 2 := by omega
          have hdm : decide ((2 : Int) < 2) = false := by decide
          go_wp2
          go_roundw
          case rel => exact ⟨k + 1, by omega, by go_num, by rw [show 2 * (k + 1) = 2 * k + 2 by omega]; exact hown, hb⟩
          case measure => simp [intOf]; omega
    · obtain rfl : k = 256 := by omega
      have hd : decide ((256 : Int) < 256) = false := by decide
      go_wp2
      go_ret
      exact ⟨⟨_, rfl, hown⟩, hb⟩
end Go.Proofs.YtchpoggegdocpaaDoor
