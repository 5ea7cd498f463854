/- the law LamportPublic: the walk -/
import Derived.Test.YtchpoggegdocpaaDoorLamLaw
set_option maxRecDepth 100000
namespace Go.Proofs.YtchpoggegdocpaaDoor
open Go.RowKit Go.Spec
def pubX (seed : List UInt8) (x : Int) : List (List UInt8) := if inK x then pubs seed x.toNat 512 else []
theorem pubX_len (seed : List UInt8) (x : Int) : (pubX seed x).length ≤ 512 := by
  unfold pubX; split
  · rw [pubs_len]; omega
  · simp
theorem SlAt.none (w : World) : SlAt w 32 (.slice none 0 0) (hcs []) := ⟨Option.none, 0, rfl, Nat.le_refl _, fun _ h => by simp [hcs] at h, fun i cs h => by simp [hcs] at h⟩
theorem public_any (seed : List UInt8) (x : Int) (w : World) (hs : seed.length ≤ 1000000) (hG : ShaG w) :
    Calls Tryd.prog 26 #[sv seed, .int .i64 x] w fun e w' => (∃ v, e = .returned v ∧ SlAt w' 32 v (hcs (pubX seed x))) ∧ Below w.heap.size w w' := by
  unfold pubX
  by_cases h : inK x
  · obtain ⟨h1, h2⟩ := id h
    obtain ⟨a, rfl⟩ : ∃ a : Nat, x = a := ⟨x.toNat, by omega⟩
    rw [if_pos h]
    refine (public_in seed a w hs (by omega) hG).mono ?_
    rintro e w1 ⟨⟨g, rfl, hB, _⟩, hb⟩
    refine ⟨⟨_, rfl, ?_⟩, hb⟩
    have := hB.sl (by rw [pubs_len]; decide)
    rw [pubs_len] at this
    exact this
  · rw [if_neg h]
    refine (public_out seed x w (by unfold inK at h; omega)).mono ?_
    rintro e w1 ⟨rfl, rfl⟩
    exact ⟨⟨_, rfl, SlAt.none _⟩, Below.refl _ _⟩
theorem rpublic_any (seed : List UInt8) (x : Int) (w : World) (hs : seed.length ≤ 1000000) :
    Calls Tryd.prog 24 #[sv seed, .int .i64 x] w fun e w' => (∃ v, e = .returned v ∧ SlAt w' 32 v (hcs (pubX seed x))) ∧ Below w.heap.size w w' := by
  unfold pubX
  by_cases h : inK x
  · obtain ⟨h1, h2⟩ := id h
    obtain ⟨a, rfl⟩ : ∃ a : Nat, x = a := ⟨x.toNat, by omega⟩
    rw [if_pos h]
    refine (rpublic_in seed a w hs (by omega)).mono ?_
    rintro e w1 ⟨⟨v, rfl, hB⟩, hb⟩
    exact ⟨⟨_, rfl, SlAt.of_owns (size := 32) (hs := pubs seed a 512) (by rw [pubs_len]; exact hB) (pubs_32 seed a 512)⟩, hb⟩
  · rw [if_neg h]
    refine (rpublic_out seed x w (by unfold inK at h; omega)).mono ?_
    rintro e w1 ⟨rfl, rfl⟩
    exact ⟨⟨_, rfl, SlAt.none _⟩, Below.refl _ _⟩
theorem lleaf_any (v : Value) (hs : List (List UInt8)) (w : World) (hS : SlAt w 32 v (hcs hs)) (hl : hs.length ≤ 1000000) (hG : ShaG w) :
    Calls Tryd.prog 27 #[v] w fun e w' => e = .returned (hv (leafK hs)) ∧ Below w.heap.size w w' := by
  unfold leafK
  by_cases h : hs.length = 512
  · rw [if_pos h]; exact lleaf_yes v hs w hS h hG
  · rw [if_neg h]; exact lleaf_no v hs w hS hl h
theorem rlleaf_any (v : Value) (hs : List (List UInt8)) (w : World) (hS : SlAt w 32 v (hcs hs)) (hl : hs.length ≤ 1000000) :
    Calls Tryd.prog 28 #[v] w fun e w' => e = .returned (hv (leafK hs)) ∧ Below w.heap.size w w' := by
  unfold leafK
  by_cases h : hs.length = 512
  · rw [if_pos h]; exact rlleaf_yes v hs w hS h
  · rw [if_neg h]; exact rlleaf_no v hs w hS hl h
set_option maxHeartbeats 2000000 in
theorem lamportPublic_law (seed : List UInt8) (x : Int) (v : Value) (hs : List (List UInt8)) (w : World) (hl : seed.length ≤ 9223372036854775807) (hx : -9223372036854775808 ≤ x ∧ x ≤ 9223372036854775807) (hS : SlAt w 32 v (hcs hs)) (hhl : hs.length ≤ 9223372036854775807) (hG : ShaG w) :
    Calls Tryd.prog 8 #[sv seed, .int .i64 x, v] w fun e w' => e = .returned (.bool true) ∧ Below w.heap.size w w' := by
  have HG := hid hG; clear hG
  have hSv := hS
  obtain ⟨a, cap, rfl, hcap⟩ := hSv.formH
  clear hSv
  by_cases h1 : 300 < seed.length
  · have hd : decide ((300 : Int) < (seed.length : Int)) = true := by simp; omega
    clear h1
    go_enter Tryd.func8, Tryd.ntmps8
    go_wp2_with (go_at_call 17; refine (keyed_any _ HG.out).mono ?_; rintro e w1 ⟨rfl, hb⟩)
    go_ret
    exact ⟨rfl, hb⟩
  · have hd : decide ((300 : Int) < (seed.length : Int)) = false := by simp; omega
    by_cases h2 : 520 < hs.length
    · have hd2 : decide ((520 : Int) < (hs.length : Int)) = true := by simp; omega
      clear h1 h2
      go_enter Tryd.func8, Tryd.ntmps8
      go_wp2_with (go_at_call 17; refine (keyed_any _ HG.out).mono ?_; rintro e w1 ⟨rfl, hb⟩)
      go_ret
      exact ⟨rfl, hb⟩
    · have hd2 : decide ((520 : Int) < (hs.length : Int)) = false := by simp; omega
      have P1 := hid (fun w0 => rpublic_any seed x w0 (by omega))
      have P2 := hid (fun w0 h0 => public_any seed x w0 (by omega) h0)
      have hpl := pubX_len seed x
      have hk1 := leafK_len (pubX seed x)
      have hk2 := leafK_len hs
      have HL := hid (fun w0 hS h0 => lleaf_any (.slice a hs.length cap) hs w0 hS (by omega) h0)
      have HR := hid (fun w0 hS => rlleaf_any (.slice a hs.length cap) hs w0 hS (by omega))
      have hs3 := Tryd.sizeHash
      have hs5 := Tryd.sizeU8
      have hge := Tryd.guardHash3
      have HS := hid hS
      clear h1 h2 hS hx
      generalize hpx : pubX seed x = L at *
      clear hpx
      have HL2 := hid (fun w0 v hS h0 => lleaf_any v L w0 hS (by omega) h0)
      have HR2 := hid (fun w0 v hS => rlleaf_any v L w0 hS (by omega))
      have Hq := hid (fun w0 va vb ha hb => same_any va vb L L w0 ha hb (by omega) (by omega))
      have hq1 : (leafK L == leafK L) = true := by simp
      have hq2 : (leafK hs == leafK hs) = true := by simp
      have hq3 : (L == L) = true := by simp
      generalize leafK L = K1 at *
      generalize leafK hs = K2 at *
      go_enter Tryd.func8, Tryd.ntmps8
      go_wp2_with fail
      refine (P1.out _).mono ?_
      rintro e w1 ⟨⟨v1, rfl, hS1⟩, hb1⟩
      go_wp2_with fail
      refine (P2.out _ (HG.out.later hb1)).mono ?_
      rintro e w2 ⟨⟨v2, rfl, hS2⟩, hb2⟩
      have HS1 := hid (hS1.below hb2 (Nat.le_refl _)); have HS2 := hid hS2; have HB2 := hid (bth hb1 hb2)
      clear hS1 hS2 hb1 hb2
      go_wp2_with fail
      refine (Hq.out _ _ _ HS2.out HS1.out).mono ?_
      rintro e w3 ⟨rfl, hb3⟩
      have HB3 := hid (bth HB2.out hb3); have HS3 := hid (HS1.out.below hb3 (Nat.le_refl _))
      clear hb3 HS2 HS1 HB2
      go_wp2_with fail
      refine (HL2.out _ _ HS3.out (HG.out.later HB3.out)).mono ?_
      rintro e w4 ⟨rfl, hb4⟩
      have HB4 := hid (bth HB3.out hb4); have HS4 := hid (HS3.out.below hb4 (Nat.le_refl _))
      clear hb4 HS3 HB3
      go_wp2_with fail
      refine (HR2.out _ _ HS4.out).mono ?_
      rintro e w5 ⟨rfl, hb5⟩
      have HB5 := hid (bth HB4.out hb5)
      clear hb5 HS4 HB4
      go_wp2_with fail
      refine (HL.out _ (HS.out.below HB5.out (Nat.le_refl _)) (HG.out.later HB5.out)).mono ?_
      rintro e w6 ⟨rfl, hb6⟩
      have HB6 := hid (bth HB5.out hb6)
      clear hb6
      go_wp2_with fail
      refine (HR.out _ (HS.out.below HB6.out (Nat.le_refl _))).mono ?_
      rintro e w7 ⟨rfl, hb7⟩
      have HB7 := hid (bth HB6.out hb7)
      clear hb7
      go_wp2_with fail
      refine (keyed_any _ (HG.out.later HB7.out)).mono ?_
      rintro e w8 ⟨rfl, hb8⟩
      go_wp2
      go_ret
      exact ⟨rfl, bth HB7.out hb8⟩
end Go.Proofs.YtchpoggegdocpaaDoor
