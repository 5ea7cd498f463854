/- frames.cut -/
import Derived.Test.YtchpoggegdocpaaDoorFrame
set_option maxRecDepth 100000
namespace Go.Proofs.YtchpoggegdocpaaDoor
open Go.RowKit Go.Spec
theorem cutF_parts (l : List UInt8) (h12 : ¬ l.length < 12) (hn : ¬ (65536 < beN (l.take 4) ∨ l.length - 12 < beN (l.take 4))) :
    cutF l = if markL ((l.drop 12).take (beN (l.take 4))) = l.take 12 then some ((l.drop 12).take (beN (l.take 4)), l.drop (12 + beN (l.take 4))) else none := by
  unfold cutF
  rw [if_neg h12, if_neg hn]
set_option maxHeartbeats 2000000 in
theorem cut_short (v : Value) (l : List UInt8) (w : World) (hB : BsAt w v l) (h12 : l.length < 12) :
    Calls Tryd.prog 35 #[v] w fun e w' => (∃ p r, e = .returned (.tuple #[p, r, .bool false])) ∧ w = w' := by
  obtain ⟨ad, cap, rfl, hcap, hcm⟩ := hB.form
  clear hB
  have hd : decide ((l.length : Int) < 12) = true := by simp; omega
  go_enter Tryd.func35, Tryd.ntmps35
  go_wp2
  go_ret3
  exact ⟨⟨_, _, rfl⟩, rfl⟩
set_option maxHeartbeats 2000000 in
theorem cut_bad (v : Value) (l : List UInt8) (w : World) (hB : BsAt w v l) (hl : l.length ≤ 1000000) (h12 : ¬ l.length < 12) (hn : 65536 < beN (l.take 4) ∨ l.length - 12 < beN (l.take 4)) :
    Calls Tryd.prog 35 #[v] w fun e w' => (∃ p r, e = .returned (.tuple #[p, r, .bool false])) ∧ w = w' := by
  obtain ⟨ad, cap, rfl, hcap, hcm⟩ := hB.form
  have hd : decide ((l.length : Int) < 12) = false := by simp; omega
  obtain ⟨a4, c4, hr4, hB4⟩ := hB.takeR (P := Tryd.prog) 35 5 Tryd.underlying35 Tryd.sizeU8f 4 4 rfl (by omega)
  have hcv4 := hB4.conv (P := Tryd.prog) 35 9 5 Tryd.underlying35 Tryd.underlying5 Tryd.underlying9
  have h4 : (l.take 4).length ≤ 8 := by rw [List.length_take]; omega
  have hlt := beN_lt l 4
  have Hg := hid (fun w0 => get_any (l.take 4) w0 h4)
  generalize l.take 4 = T at *
  clear hB hB4 h4
  generalize beN T = n at *
  have hnb : n ≤ 4294967296 := by omega
  by_cases h1 : 65536 < n
  · have d1 : decide ((65536 : Int) < (n : Int)) = true := by simp; omega
    clear hn hlt
    go_enter Tryd.func35, Tryd.ntmps35
    go_wp2_with (go_at_call 52; refine (Hg.out _).mono ?_; rintro e w1 ⟨rfl, rfl⟩)
    go_ret3
    exact ⟨⟨_, _, rfl⟩, rfl⟩
  · have d1 : decide ((65536 : Int) < (n : Int)) = false := by simp; omega
    have d2 : decide ((l.length : Int) - 12 < (n : Int)) = true := by simp; omega
    clear hn hlt
    go_enter Tryd.func35, Tryd.ntmps35
    go_wp2_with (go_at_call 52; refine (Hg.out _).mono ?_; rintro e w1 ⟨rfl, rfl⟩)
    go_ret3
    exact ⟨⟨_, _, rfl⟩, rfl⟩
set_option maxHeartbeats 2000000 in
theorem cut_read (v : Value) (l : List UInt8) (w0 w : World) (hB : BsAt w0 v l) (hb0 : Below w0.heap.size w0 w) (hl : l.length ≤ 1000000) (h12 : ¬ l.length < 12) (hn : ¬ (65536 < beN (l.take 4) ∨ l.length - 12 < beN (l.take 4))) (hG : ShaG w) :
    Calls Tryd.prog 35 #[v] w fun e w' => (∃ vp vr, e = .returned (.tuple #[vp, vr, .bool (markL ((l.drop 12).take (beN (l.take 4))) == l.take 12)]) ∧ BsAt w0 vp ((l.drop 12).take (beN (l.take 4))) ∧ BsAt w0 vr (l.drop (12 + beN (l.take 4)))) ∧ Below w.heap.size w w' := by
  have HG := hid hG; clear hG
  have Hb0 := hid hb0
  obtain ⟨ad, cap, rfl, hcap, hcm⟩ := hB.form
  have hd : decide ((l.length : Int) < 12) = false := by simp; omega
  obtain ⟨a4, c4, hr4, hB4⟩ := hB.takeR (P := Tryd.prog) 35 5 Tryd.underlying35 Tryd.sizeU8f 4 4 rfl (by omega)
  have hcv4 := (hB4.below hb0).conv (P := Tryd.prog) 35 9 5 Tryd.underlying35 Tryd.underlying5 Tryd.underlying9
  have h4 : (l.take 4).length ≤ 8 := by rw [List.length_take]; omega
  have hlt := beN_lt l 4
  have Hg := hid (fun w0 => get_any (l.take 4) w0 h4)
  generalize l.take 4 = T at *
  clear hB4 h4
  generalize beN T = n at *
  have hnb : n ≤ 65536 := by omega
  have d1 : decide ((65536 : Int) < (n : Int)) = false := by simp; omega
  have d2 : decide ((l.length : Int) - 12 < (n : Int)) = false := by simp; omega
  obtain ⟨m, hm⟩ : ∃ m, 12 + n = m := ⟨_, rfl⟩
  have em : (12 : Int) + (n : Int) = (m : Int) := by omega
  obtain ⟨a5, c5, hr5, hB5⟩ := hB.midR (P := Tryd.prog) 35 5 Tryd.underlying35 Tryd.sizeU8f 12 m 12 m rfl rfl (by omega) (by omega)
  obtain ⟨a6, c6, hr6, hB6⟩ := hB.dropR (P := Tryd.prog) 35 5 Tryd.underlying35 Tryd.sizeU8f m m rfl (by omega)
  obtain ⟨a7, c7, hr7, hB7⟩ := hB.takeR (P := Tryd.prog) 35 5 Tryd.underlying35 Tryd.sizeU8f 12 12 rfl (by omega)
  rw [show m - 12 = n by omega] at hB5 hr5
  rw [hm]
  have h5 : ((l.drop 12).take n).length ≤ 1000000 := by rw [List.length_take, List.length_drop]; omega
  generalize (l.drop 12).take n = A at *
  generalize l.drop m = R at *
  generalize l.take 12 = H at *
  have HB5 := hid hB5; have HB6 := hid hB6; have HB7 := hid hB7
  have H5 := hid h5
  have h12p : 12 ≤ l.length := by omega
  clear hB hB5 hB6 hB7 hn hlt hm h5 h12 hb0
  go_enter Tryd.func35, Tryd.ntmps35
  go_wp2_with (go_at_call 52; refine (Hg.out _).mono ?_; rintro e w1 ⟨rfl, rfl⟩)
  refine wp_region_later (by kernel_rfl) (by kernel_rfl) ?_
  repeat go_big_quiet_step (fail)
  refine wpQuiet_nil ?_
  rintro _ ⟨q2, rfl⟩
  have hb2 := lat_below q2
  generalize lat q2 = w2 at *
  have hB5 := HB5.out.below (bth Hb0.out hb2)
  have hB7 := HB7.out.below (bth Hb0.out hb2)
  have hcvA := fun x : Later w2 => (hB5.below (lat_below x)).conv (P := Tryd.prog) 35 9 5 Tryd.underlying35 Tryd.underlying5 Tryd.underlying9
  have hcvH := fun x : Later w2 => (hB7.below (lat_below x)).conv (P := Tryd.prog) 35 9 5 Tryd.underlying35 Tryd.underlying5 Tryd.underlying9
  have HM := hid (fun x : Later w2 => mark_any A (lat x) H5.out (HG.out.later (bth hb2 (lat_below x))))
  clear hB5 hB7
  go_wp2_with fail
  refine wp_region_later (by kernel_rfl) (by kernel_rfl) ?_
  repeat go_big_quiet_step ((first | (go_at_call 30; with_reducible exact calls_later (HM.out _))))
  refine wpQuiet_nil ?_
  rintro _ ⟨q3, rfl⟩
  have hb3 := lat_below q3
  generalize lat q3 = w3 at *
  go_wp2
  go_ret3
  have HB := bth hb2 hb3
  exact ⟨⟨_, _, rfl, HB5.out, HB6.out⟩, HB⟩
end Go.Proofs.YtchpoggegdocpaaDoor
