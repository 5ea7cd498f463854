/- GossipPut -/
import Derived.Test.YtjpnlnbpaecciaaTalked
import Derived.Test.YtjpnlnbpaecciaaSigned
import Derived.Test.YtjpnlnbpaecciaaGRPut
import Derived.Test.YtjpnlnbpaecciaaGRKnown
set_option maxRecDepth 100000
namespace Go.Proofs.Ytjpnlnbpaecciaa
open Go.RowKit Go.Spec
set_option maxHeartbeats 4000000 in
theorem gossipPut_law (v : Value) (rs : List Rg) (u : Value) (hs : List Hd) (W : World) (hv : RgsAt W v rs) (hl : rs.length ≤ 9223372036854775807) (hu : HdsAt W u hs) (hul : hs.length ≤ 9223372036854775807) :
    Calls Try.prog 3 #[v, u] W fun e w' => e = .returned (.bool true) ∧ Below W.heap.size W w' := by
  have CS := hid (fun w0 (h : RgsAt w0 v rs) => signed_any v rs 5 w0 h hl (by decide))
  have Hv := hid hv; have Hu := hid hu
  obtain ⟨ua, ucap, rfl, _⟩ := hu.form
  clear hv hu
  cases hok : signedOk rs 5 with
  | false =>
    have Hok := hid hok; clear hok
    go_enter Try.func3, Try.ntmps3
    go_wp2_with (first
      | (go_at_call 12; refine (CS.out _ Hv.out).mono ?_; rintro e w1 ⟨hno, hyes, hb1⟩; obtain rfl := hno Hok.out; clear hno hyes)
      | (go_at_call 13; refine (talked_any _).mono ?_; rintro e w2 ⟨rfl, hb2⟩))
    go_ret
    exact ⟨rfl, bth hb1 hb2⟩
  | true =>
  have Hok := hid hok; clear hok
  by_cases h80 : 80 < hs.length
  · have d8 : decide ((80 : Int) < (hs.length : Int)) = true := decide_eq_true (by omega)
    clear h80
    go_enter Try.func3, Try.ntmps3
    go_wp2_with (first
      | (go_at_call 12; refine (CS.out _ Hv.out).mono ?_; rintro e w1 ⟨hno, hyes, hb1⟩; obtain ⟨x, ds, rfl, hs1⟩ := hyes Hok.out; clear hno hyes hs1)
      | (go_at_call 13; refine (talked_any _).mono ?_; rintro e w2 ⟨rfl, hb2⟩))
    go_ret
    exact ⟨rfl, bth hb1 hb2⟩
  have d8 : decide ((80 : Int) < (hs.length : Int)) = false := decide_eq_false (by omega)
  have h80' : hs.length ≤ 80 := by omega
  have P3 := hid (fun w0 (h : HdsAt w0 (.slice ua hs.length ucap) hs) => gputk_any _ hs w0 h (by omega))
  have P4 := hid (fun w0 (h : HdsAt w0 (.slice ua hs.length ucap) hs) => rgputk_any _ hs w0 h (by omega))
  clear h80
  go_enter Try.func3, Try.ntmps3
  go_upto_region 4 with (go_at_call 12; refine (CS.out _ Hv.out).mono ?_; rintro e w1 ⟨hno, hyes, hb1⟩; obtain ⟨x, ds, rfl, hs1⟩ := hyes Hok.out; clear hno hyes)
  have Hs := hid hs1; clear hs1
  have P1 := hid (fun w0 (h : SgsAt w0 x ds) => gput_any x ds w0 h (by have := Hs.out.le; omega))
  have P2 := hid (fun w0 (h : SgsAt w0 x ds) => rgput_any x ds w0 h (by have := Hs.out.le; omega))
  have hq : ∀ (s : List UInt8), (s == s) = true := fun s => by simp
  rcases hp1 : putGL ds with _ | s <;> rcases hp2 : putKL hs with _ | t
  all_goals
    rw [hp1] at P1 P2
    rw [hp2] at P3 P4
    clear hp1 hp2
    go_wp2_with (first
      | (go_at_call 14; refine (P1.out _ Hs.out.at_).mono ?_; rintro e w2 ⟨rfl, hb2⟩; simp only [putR])
      | (go_at_call 15; refine (P2.out _ (Hs.out.at_.below hb2)).mono ?_; rintro e w3 ⟨rfl, hb3⟩; simp only [putR])
      | (go_at_call 16; refine (P3.out _ (Hu.out.below (bth hb1 (bth hb2 hb3)))).mono ?_; rintro e w4 ⟨rfl, hb4⟩; simp only [putR])
      | (go_at_call 17; refine (P4.out _ (Hu.out.below (bth hb1 (bth (bth hb2 hb3) hb4)))).mono ?_; rintro e w5 ⟨rfl, hb5⟩; simp only [putR])
      | (go_at_call 13; refine (talked_any _).mono ?_; rintro e w6 ⟨rfl, hb6⟩))
    go_ret
    exact ⟨rfl, bth hb1 (bth (bth (bth (bth hb2 hb3) hb4) hb5) hb6)⟩
end Go.Proofs.Ytjpnlnbpaecciaa
