/- the law FramesLong: the walk -/
import Derived.Test.YtchpoggegdocpaaDoorFrameStands
set_option maxRecDepth 100000
namespace Go.Proofs.YtchpoggegdocpaaDoor
open Go.RowKit Go.Spec
theorem Tryd.infoU8k : (Tryd.prog.info? 5).map (fun i => (i.zero, i.size, i.bytes)) = some (some (.int .u8 0), 1, 1) := by kernel_rfl
/-- 'string(make([]byte, n))' -/
theorem zeros_conv (w : World) (n : Nat) : (convert 35 9 (.slice (some ⟨w.heap.size, 0, none⟩) n n)).run Tryd.prog (w.alloc (.cells (hc (List.replicate n 0)) 5)) = .ok (sv (List.replicate n 0)) (w.alloc (.cells (hc (List.replicate n 0)) 5)) := by
  have := (Blk.new w (hc (List.replicate n 0)) 5).convHead (P := Tryd.prog) (k := n) (n := n) (by simp) 35 9 5 Tryd.underlying35 Tryd.underlying5 Tryd.underlying9
  rwa [List.take_of_length_le (by simp)] at this
theorem whole_one (p : List UInt8) (h : p.length ≤ 65536) : wholeL (frameL p) = ([p], []) := by
  have := whole_frames [p] [] (by simpa using h)
  rw [framesL_cons, framesL_nil, List.append_nil, List.append_nil] at this
  exact this
set_option maxHeartbeats 1000000 in
theorem framesLong_law (x : Int) (w : World) (hx : -128 ≤ x ∧ x ≤ 127) (hG : ShaG w) :
    Calls Tryd.prog 6 #[.int .i8 x] w fun e w' => e = .returned (.bool true) ∧ Below w.heap.size w w' := by
  have HG := hid hG; clear hG
  obtain ⟨i0, hi, hz0, hz1, hz2⟩ := info_parts Tryd.infoU8k
  obtain ⟨n, hn⟩ : ∃ n : Nat, 65536 + x = (n : Int) := ⟨(65536 + x).toNat, by omega⟩
  have hmk := run_make_bytes (P := Tryd.prog) 35 5 i0 Tryd.underlying35 hi hz0 hz1 hz2 n (by omega)
  have hcv := zeros_conv w n
  have HB : Below w.heap.size w (w.alloc (.cells (hc (List.replicate n 0)) 5)) := (Below.refl _ w).alloc (Nat.le_refl _) _
  have hzl : (List.replicate n (0 : UInt8)).length = n := by simp
  by_cases h0 : 0 < x
  · have hd : decide (0 < x) = true := by simpa using h0
    have P := hid (fun w0 => fput_long (List.replicate n 0) w0 (by omega) (by omega))
    clear hzl
    generalize List.replicate n (0 : UInt8) = Z at *
    go_enter Tryd.func6, Tryd.ntmps6
    go_wp2_with (first
      | (go_at_call 11; refine (P.out _).mono ?_; rintro e w1 ⟨rfl, rfl⟩)
      | (go_at_call 10; refine (framed_any _ (HG.out.later HB)).mono ?_; rintro e w5 ⟨rfl, hb5⟩))
    go_ret
    exact ⟨rfl, bth HB hb5⟩
  · have hd : decide (0 < x) = false := by simpa using h0
    have hn6 : n ≤ 65536 := by omega
    have P := hid (fun w0 h0 => fput_any (List.replicate n 0) w0 (by omega) h0)
    have hFl : (frameL (List.replicate n 0)).length = n + 12 := by rw [frameL_len, hzl]
    have W0 := fun w0 h0 => whole_any (frameL (List.replicate n 0)) w0 (by omega) h0
    rw [whole_one _ (by omega)] at W0
    have W := hid (show ∀ w0, ShaG w0 → Calls Tryd.prog 15 #[sv (frameL (List.replicate n 0))] w0 fun e w' => (∃ v, e = .returned (.tuple #[v, .int .i64 ((frameL (List.replicate n 0)).length : Int)]) ∧ w'.ownsRow w0.heap.size 9 1 v 1 ([List.replicate n 0].map sv)) ∧ Below w0.heap.size w0 w' from W0)
    clear W0 hzl
    generalize frameL (List.replicate n 0) = F at *
    generalize List.replicate n (0 : UInt8) = Z at *
    go_enter Tryd.func6, Tryd.ntmps6
    go_wp2_with (first
      | (go_at_call 11; refine (P.out _ (HG.out.later HB)).mono ?_; rintro e w1 ⟨rfl, hb1⟩)
      | (go_at_call 15; refine (W.out _ (HG.out.later (bth HB hb1))).mono ?_; rintro e w2 ⟨⟨v, rfl, hv⟩, hb2⟩; obtain ⟨av, cv, rfl, hcv2⟩ := ownsRow_form hv; have HB2 := bth (bth HB hb1) hb2; clear hv hb1 hb2)
      | (go_at_call 10; refine (framed_any _ (HG.out.later HB2)).mono ?_; rintro e w5 ⟨rfl, hb5⟩))
    go_ret
    exact ⟨rfl, bth HB2 hb5⟩
end Go.Proofs.YtchpoggegdocpaaDoor
