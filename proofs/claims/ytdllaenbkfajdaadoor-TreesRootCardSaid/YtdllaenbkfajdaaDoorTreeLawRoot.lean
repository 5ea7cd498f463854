/- the law TreesRoot: the walk -/
import Derived.Test.YtdllaenbkfajdaaDoorTreeGrown
import Derived.Test.YtdllaenbkfajdaaDoorTreeRRoot2
set_option maxRecDepth 100000
namespace Go.Proofs.YtdllaenbkfajdaaDoor
open Go.RowKit Go.Spec
set_option maxHeartbeats 2000000 in
theorem treesRoot_law (v : Value) (hs : List (List UInt8)) (w : World) (hS : SlAt w 32 v (hcs hs)) (hl : hs.length ≤ 9223372036854775807) (hG : ShaG w) :
    Calls Tryd.prog 3 #[v] w fun e w' => e = .returned (.bool true) ∧ Below w.heap.size w w' := by
  have HG := hid hG; clear hG
  obtain ⟨a, cap, rfl, hcap⟩ := hS.formH
  have HB := Below.refl w.heap.size w
  by_cases h1 : 200 < hs.length
  · have hd : decide ((200 : Int) < (hs.length : Int)) = true := by simp; omega
    clear h1 hS
    go_enter Tryd.func3, Tryd.ntmps3
    go_wp2_with (go_at_call 12; refine (grown_any _ HG.out).mono ?_; rintro e w1 ⟨rfl, hb⟩)
    go_ret
    exact ⟨rfl, hb⟩
  · have hd : decide ((200 : Int) < (hs.length : Int)) = false := by simp; omega
    have hl2 : hs.length ≤ 1000000 := by omega
    have H1 := hid (fun w0 h0 hS0 => root_any hs (.slice a hs.length cap) w0 hl2 h0 hS0)
    have H2 := hid (fun w0 hS0 => rroot_any hs (.slice a hs.length cap) w0 hl2 hS0)
    have hx := rootL_len _ hs (Nat.le_refl _) hS.len32
    have HS := hid hS
    have hs5 := Tryd.sizeU8
    have hge := Tryd.guardHash3
    have hq : (rootL hs == rootL hs) = true := by simp
    clear h1 hS
    generalize rootL hs = R at *
    go_enter Tryd.func3, Tryd.ntmps3
    go_wp2_with fail
    refine (H1.out _ HG.out HS.out).mono ?_
    rintro e w1 ⟨rfl, hb⟩
    replace HB := bth HB hb; clear hb
    go_wp2_with fail
    refine (H2.out _ (HS.out.below HB (Nat.le_refl _))).mono ?_
    rintro e w2 ⟨rfl, hb⟩
    replace HB := bth HB hb; clear hb
    go_wp2_with fail
    refine (grown_any _ (HG.out.later HB)).mono ?_
    rintro e w3 ⟨rfl, hb⟩
    replace HB := bth HB hb; clear hb
    go_wp2
    go_ret
    exact ⟨rfl, HB⟩
end Go.Proofs.YtdllaenbkfajdaaDoor
