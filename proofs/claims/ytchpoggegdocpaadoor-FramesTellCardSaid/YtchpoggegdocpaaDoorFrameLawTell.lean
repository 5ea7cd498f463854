/- the law FramesTell: the walk -/
import Derived.Test.YtchpoggegdocpaaDoorFrameStands
set_option maxRecDepth 100000
namespace Go.Proofs.YtchpoggegdocpaaDoor
open Go.RowKit Go.Spec
set_option maxHeartbeats 1000000 in
theorem framesTell_law (s : List UInt8) (k : Int) (w : World) (hl : s.length ≤ 9223372036854775807) (hk : -9223372036854775808 ≤ k ∧ k ≤ 9223372036854775807) (hG : ShaG w) :
    Calls Tryd.prog 3 #[sv s, .int .i64 k] w fun e w' => e = .returned (.bool true) ∧ Below w.heap.size w w' := by
  have HG := hid hG; clear hG
  by_cases h1 : 2000 < s.length
  · have hd : decide ((2000 : Int) < (s.length : Int)) = true := by simp; omega
    clear h1
    go_enter Tryd.func3, Tryd.ntmps3
    go_wp2_with (go_at_call 10; refine (framed_any _ HG.out).mono ?_; rintro e w1 ⟨rfl, hb⟩)
    go_ret
    exact ⟨rfl, hb⟩
  · have hd : decide ((2000 : Int) < (s.length : Int)) = false := by simp; omega
    have P1 := hid (fun w0 h0 => fput_any s w0 (by omega) h0)
    have P2 := hid (fun w0 => rfput_any s w0 (by omega))
    have S1 := hid (fun w0 h0 => stands_any s k w0 (by omega) hk h0)
    have S2 := hid (fun w0 h0 => stands_any (frameL s) k w0 (by rw [frameL_len]; omega) hk h0)
    have hq : (frameL s == frameL s) = true := by simp
    clear hk
    generalize frameL s = F at *
    go_enter Tryd.func3, Tryd.ntmps3
    go_wp2_with (first
      | (go_at_call 11; refine (P1.out _ HG.out).mono ?_; rintro e w1 ⟨rfl, hb1⟩)
      | (go_at_call 12; refine (P2.out _).mono ?_; rintro e w2 ⟨rfl, hb2⟩; have HB2 := bth hb1 hb2; clear hb1 hb2)
      | (go_at_call 13; first | ((with_reducible refine (S1.out _ (HG.out.later HB2)).mono ?_); rintro e w3 ⟨rfl, hb3⟩) | ((with_reducible refine (S2.out _ (HG.out.later (bth HB2 hb3))).mono ?_); rintro e w4 ⟨rfl, hb4⟩; have HB4 := bth (bth HB2 hb3) hb4; clear hb3 hb4))
      | (go_at_call 10; refine (framed_any _ (HG.out.later HB4)).mono ?_; rintro e w5 ⟨rfl, hb5⟩))
    go_ret
    exact ⟨rfl, bth HB4 hb5⟩
end Go.Proofs.YtchpoggegdocpaaDoor
