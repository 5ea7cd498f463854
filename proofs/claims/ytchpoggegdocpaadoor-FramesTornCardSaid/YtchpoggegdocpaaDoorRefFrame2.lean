/- speculumref12.Get, Whole -/
import Derived.Test.YtchpoggegdocpaaDoorRefFrame
import Derived.Test.YtchpoggegdocpaaDoorFrameGet
set_option maxRecDepth 100000
namespace Go.Proofs.YtchpoggegdocpaaDoor
open Go.RowKit Go.Spec
theorem frame_same (D P : List UInt8) (n : Nat) (hn : 12 + n ≤ D.length) (hP : (D.drop 12).take n = P) : (frameL P = D.take (12 + n)) ↔ markL P = D.take 12 := by
  have e : D.take (12 + n) = D.take 12 ++ P := by rw [← hP, List.take_add]
  rw [e]
  unfold frameL
  constructor
  · intro h
    exact (List.append_inj h (by rw [markL_len, List.length_take]; omega)).1
  · intro h; rw [h]
set_option maxHeartbeats 2000000 in
theorem rfget_out (s : List UInt8) (k : Int) (w : World) (hl : s.length ≤ 1000000) (hk : -9223372036854775808 ≤ k ∧ k ≤ 9223372036854775807) (h : k < 0 ∨ (s.length : Int) - k < 12) :
    Calls Tryd.prog 33 #[sv s, .int .i64 k] w fun e w' => e = .returned (fgetV ([], 0, false)) ∧ w = w' := by
  by_cases h0 : k < 0
  · have d0 : decide (k < 0) = true := by simpa using h0
    clear h
    go_enter Tryd.func33, Tryd.ntmps33
    go_wp2
    go_ret3
    exact ⟨rfl, rfl⟩
  · have d0 : decide (k < 0) = false := by simpa using h0
    by_cases h1 : (s.length : Int) < k
    · have d1 : decide ((s.length : Int) < k) = true := by simpa using h1
      clear h
      go_enter Tryd.func33, Tryd.ntmps33
      go_wp2
      go_ret3
      exact ⟨rfl, rfl⟩
    · have d1 : decide ((s.length : Int) < k) = false := by simpa using h1
      have d2 : decide ((s.length : Int) - k < 12) = true := by simp; omega
      have hk0 : 0 ≤ k := by omega
      have hk1 : k ≤ (s.length : Int) := by omega
      clear h
      go_enter Tryd.func33, Tryd.ntmps33
      go_wp2
      go_ret3
      exact ⟨rfl, rfl⟩
set_option maxHeartbeats 2000000 in
theorem rfget_in (s : List UInt8) (k : Nat) (w : World) (hl : s.length ≤ 1000000) (h : k + 12 ≤ s.length) :
    Calls Tryd.prog 33 #[sv s, .int .i64 (k : Int)] w fun e w' => e = .returned (fgetV (fgetL s k)) ∧ Below w.heap.size w w' := by
  have HB := Below.refl w.heap.size w
  have hf : fgetL s k = match cutF (s.drop k) with
          | none => ([], 0, false)
          | some (p, r) => (p, s.length - r.length, true) := by unfold fgetL; rw [if_neg (by omega), Int.toNat_natCast]; cases cutF (s.drop k) <;> rfl
  have d0 : decide ((k : Int) < 0) = false := by simp
  have d1 : decide ((s.length : Int) < (k : Int)) = false := by simp; omega
  have d2 : decide ((s.length : Int) - (k : Int) < 12) = false := by simp; omega
  obtain ⟨m4, hm4⟩ : ∃ m, k + 4 = m := ⟨_, rfl⟩
  have e4 : (k : Int) + 4 = (m4 : Int) := by omega
  have hT0 : (s.take m4).drop k = (s.drop k).take 4 := by rw [List.drop_take]; congr 1; omega
  have hDl : (s.drop k).length = s.length - k := List.length_drop
  have h4 : ((s.drop k).take 4).length ≤ 8 := by rw [List.length_take]; omega
  have Hg := hid (fun w0 => rget_any ((s.drop k).take 4) w0 h4)
  have hlt := beN_lt (s.drop k) 4
  obtain ⟨n, hn⟩ : ∃ n, beN ((s.drop k).take 4) = n := ⟨_, rfl⟩
  obtain ⟨x, hx⟩ : ∃ x, s.length - k - 12 = x := ⟨_, rfl⟩
  have ex : (s.length : Int) - (k : Int) - 12 = (x : Int) := by omega
  rw [hn] at hlt Hg
  by_cases h1 : x < n
  · have dx : decide ((x : Int) < (n : Int)) = true := by simp; omega
    have hc : cutF (s.drop k) = none := by
      unfold cutF; rw [if_neg (by omega), hn, if_pos (by omega)]
    rw [hc] at hf
    simp only at hf
    rw [hf]
    have hm4s : m4 ≤ s.length := by omega
    have hkm : k ≤ m4 := by omega
    have hnb : n ≤ 4294967296 := by omega
    have hks : k ≤ s.length := by omega
    clear hf hc hn hDl h4 hlt hx hm4
    generalize (s.drop k).take 4 = T at *
    go_enter Tryd.func33, Tryd.ntmps33
    go_wp2_with (go_at_call 51; refine (Hg.out _).mono ?_; rintro e w1 ⟨rfl, rfl⟩)
    go_ret3
    exact ⟨rfl, HB⟩
  · have dx : decide ((x : Int) < (n : Int)) = false := by simp; omega
    obtain ⟨m12, hm12⟩ : ∃ m, k + 12 = m := ⟨_, rfl⟩
    have e12 : (k : Int) + 12 = (m12 : Int) := by omega
    obtain ⟨m2, hm2⟩ : ∃ m, m12 + n = m := ⟨_, rfl⟩
    have e2 : (m12 : Int) + (n : Int) = (m2 : Int) := by omega
    have hP0 : (s.take m2).drop m12 = ((s.drop k).drop 12).take n := by rw [List.drop_take, List.drop_drop, hm12]; congr 1; omega
    have hF0 : (s.take m2).drop k = (s.drop k).take (12 + n) := by rw [List.drop_take]; congr 1; omega
    have hPl : (((s.drop k).drop 12).take n).length = n := by rw [List.length_take, List.length_drop]; omega
    have hm4s : m4 ≤ s.length := by omega
    have hkm : k ≤ m4 := by omega
    have hkm2 : k ≤ m2 := by omega
    have hm122 : m12 ≤ m2 := by omega
    have hm2s : m2 ≤ s.length := by omega
    have hks : k ≤ s.length := by omega
    by_cases h2 : 65536 < n
    · have hc : cutF (s.drop k) = none := by
        unfold cutF; rw [if_neg (by omega), hn, if_pos (by omega)]
      rw [hc] at hf
      simp only at hf
      rw [hf]
      have Hp := hid (fun w0 => rfput_long (((s.drop k).drop 12).take n) w0 (by omega) (by omega))
      have hnb : n ≤ 4294967296 := by omega
      clear hf hc hn hDl h4 hlt hx hm4 hm12 hm2 hPl
      generalize ((s.drop k).drop 12).take n = P at *
      generalize (s.drop k).take 4 = T at *
      generalize (s.drop k).take (12 + n) = F at *
      go_enter Tryd.func33, Tryd.ntmps33
      go_wp2_with (first
        | (go_at_call 51; refine (Hg.out _).mono ?_; rintro e w1 ⟨rfl, rfl⟩)
        | (go_at_call 12; refine (Hp.out _).mono ?_; rintro e w1 ⟨rfl, rfl⟩))
      go_ret3
      exact ⟨rfl, HB⟩
    · have Hp := hid (fun w0 => rfput_any (((s.drop k).drop 12).take n) w0 (by omega))
      have hc := cutF_parts (s.drop k) (by omega) (by rw [hn]; omega)
      rw [hn] at hc
      have Hsame := hid (frame_same (s.drop k) _ n (by omega) rfl)
      have hfl : (frameL (((s.drop k).drop 12).take n)).length = n + 12 := by rw [frameL_len, hPl]
      have efl : (k : Int) + ((n : Int) + 12) = (m2 : Int) := by omega
      have Hr := hid (show s.length - ((s.drop k).drop (12 + n)).length = m2 by rw [List.length_drop, List.length_drop]; omega)
      have hnb : n ≤ 65536 := by omega
      clear hn hDl h4 hlt hx hm4 hm12 hm2 hPl h1 h2
      by_cases hm : markL (((s.drop k).drop 12).take n) = (s.drop k).take 12
      · rw [if_pos hm] at hc
        rw [hc] at hf
        simp only at hf
        rw [hf, Hr.out]
        have hfe := Hsame.out.mpr hm
        clear hm hf hc
        generalize ((s.drop k).drop 12).take n = P at *
        generalize (s.drop k).take 4 = T at *
        generalize (s.drop k).take (12 + n) = F at *
        rw [hfe] at Hp hfl
        clear Hsame Hr hfe
        go_enter Tryd.func33, Tryd.ntmps33
        go_wp2_with (first
          | (go_at_call 51; refine (Hg.out _).mono ?_; rintro e w1 ⟨rfl, rfl⟩)
          | (go_at_call 12; refine (Hp.out _).mono ?_; rintro e w1 ⟨rfl, hb⟩))
        go_ret3
        exact ⟨rfl, hb⟩
      · rw [if_neg hm] at hc
        rw [hc] at hf
        simp only at hf
        rw [hf]
        have hne : ¬ frameL (((s.drop k).drop 12).take n) = (s.drop k).take (12 + n) := fun h => hm (Hsame.out.mp h)
        clear hm hf hc
        generalize ((s.drop k).drop 12).take n = P at *
        generalize (s.drop k).take 4 = T at *
        generalize (s.drop k).take (12 + n) = F at *
        generalize frameL P = G at *
        have hq : (G == F) = false := beq_eq_false_iff_ne.mpr hne
        clear Hsame Hr hne
        go_enter Tryd.func33, Tryd.ntmps33
        go_wp2_with (first
          | (go_at_call 51; refine (Hg.out _).mono ?_; rintro e w1 ⟨rfl, rfl⟩)
          | (go_at_call 12; refine (Hp.out _).mono ?_; rintro e w1 ⟨rfl, hb⟩))
        go_ret3
        exact ⟨rfl, hb⟩
theorem rfget_any (s : List UInt8) (k : Int) (w : World) (hl : s.length ≤ 1000000) (hk : -9223372036854775808 ≤ k ∧ k ≤ 9223372036854775807) :
    Calls Tryd.prog 33 #[sv s, .int .i64 k] w fun e w' => e = .returned (fgetV (fgetL s k)) ∧ Below w.heap.size w w' := by
  by_cases h : k < 0 ∨ (s.length : Int) - k < 12
  · have hf : fgetL s k = ([], 0, false) := by
      unfold fgetL
      by_cases h1 : k < 0 ∨ (s.length : Int) < k
      · rw [if_pos h1]
      · rw [if_neg h1]
        have : cutF (s.drop k.toNat) = none := by unfold cutF; rw [if_pos (by rw [List.length_drop]; omega)]
        rw [this]
    rw [hf]
    exact (rfget_out s k w hl hk h).mono fun _ _ ⟨a, b⟩ => ⟨a, by subst b; exact Below.refl _ _⟩
  · obtain ⟨m, rfl⟩ : ∃ m : Nat, k = m := ⟨k.toNat, by omega⟩
    exact rfget_in s m w hl (by omega)
theorem fgetL_none {s : List UInt8} {k : Nat} (hk : k ≤ s.length) (h : cutF (s.drop k) = none) : fgetL s k = ([], 0, false) := by
  unfold fgetL
  rw [if_neg (by omega), Int.toNat_natCast, h]
theorem fgetL_some {s p r : List UInt8} {k : Nat} (hk : k ≤ s.length) (h : cutF (s.drop k) = some (p, r)) : fgetL s k = (p, s.length - r.length, true) := by
  unfold fgetL
  rw [if_neg (by omega), Int.toNat_natCast, h]
set_option maxHeartbeats 1000000 in
theorem rwhole_any (s : List UInt8) (w : World) (hl : s.length ≤ 1000000) :
    Calls Tryd.prog 34 #[sv s] w fun e w' => (∃ v, e = .returned (.tuple #[v, .int .i64 ((s.length - (wholeL s).2.length : Nat) : Int)]) ∧ w'.ownsRow w.heap.size 9 1 v (wholeL s).1.length ((wholeL s).1.map sv)) ∧ Below w.heap.size w w' := by
  obtain ⟨i0, hi, hz0, hz1, hz2⟩ := info_parts Tryd.infoStr
  go_enter Tryd.func34, Tryd.ntmps34
  go_wp2
  go_loopw [4, 5] (fun v4 v5 wr => ∃ (k : Nat) (ps : List (List UInt8)), v5 = .int .i64 (k : Int) ∧ wr.ownsRow w.heap.size 9 1 v4 ps.length (ps.map sv) ∧ wholeL s = (ps ++ (wholeL (s.drop k)).1, (wholeL (s.drop k)).2) ∧ ps.length ≤ k ∧ k ≤ s.length ∧ Below w.heap.size w wr) (fun _ v5 _ => s.length - (intOf v5).toNat)
  case atStart => exact ⟨0, [], rfl, World.ownsRow_nil _ _ _ _, rfl, by simp, by omega, Below.refl _ _⟩
  case round =>
    obtain ⟨k, ps, rfl, hown, hW, hpk, hks, hb⟩ := hrel
    have HW := hid hW; clear hW
    cases hc : cutF (s.drop k) with
    | none =>
      have Hc0 := fun w0 => rfget_any s k w0 hl (by omega)
      rw [fgetL_none hks hc] at Hc0
      have Hc := hid (show ∀ w0, Calls Tryd.prog 33 #[sv s, .int .i64 (k : Int)] w0 fun e w' => e = .returned (.tuple #[sv [], .int .i64 0, .bool false]) ∧ Below w0.heap.size w0 w' from Hc0)
      clear Hc0
      have Hr := hid (show (wholeL s) = (ps, s.drop k) by rw [HW.out, wholeL_none hc, List.append_nil])
      have Hk := hid (show s.length - (s.drop k).length = k by rw [List.length_drop]; omega)
      obtain ⟨av, cv, rfl, hcv⟩ := ownsRow_form hown
      clear hc
      go_wp2_with (go_at_call 33; refine (Hc.out _).mono ?_; rintro e w2 ⟨rfl, hb2⟩)
      go_ret2
      exact ⟨⟨.slice av ps.length cv, by rw [Hr.out, Hk.out]; rfl, by rw [Hr.out]; exact ownsRow_below hown hb2⟩, bth hb hb2⟩
    | some pr =>
      obtain ⟨p, q⟩ := pr
      have Hc0 := fun w0 => rfget_any s k w0 hl (by omega)
      rw [fgetL_some hks hc] at Hc0
      have Hc := hid (show ∀ w0, Calls Tryd.prog 33 #[sv s, .int .i64 (k : Int)] w0 fun e w' => e = .returned (.tuple #[sv p, .int .i64 ((s.length - q.length : Nat) : Int), .bool true]) ∧ Below w0.heap.size w0 w' from Hc0)
      clear Hc0
      have hlq := (cutF_len hc).1
      have hcl := (cutF_some hc).1
      rw [List.length_drop] at hlq
      have hdr : s.drop (s.length - q.length) = q := by
        have h1 : s = s.take k ++ (frameL p ++ q) := by rw [← hcl, List.take_append_drop]
        have h2 : s.length - q.length = (s.take k ++ frameL p).length := by rw [List.length_append, List.length_take, frameL_len]; omega
        rw [h2]
        conv => lhs; arg 2; rw [h1, ← List.append_assoc]
        exact List.drop_left' rfl
      have Hr := hid (show (wholeL s) = ((ps ++ [p]) ++ (wholeL (s.drop (s.length - q.length))).1, (wholeL (s.drop (s.length - q.length))).2) by rw [HW.out, wholeL_some hc, hdr, List.append_assoc]; rfl)
      have hkx : k < s.length - q.length := by omega
      have hxs : s.length - q.length ≤ s.length := by omega
      clear hc hlq hcl hdr
      generalize s.length - q.length = x at *
      go_upto_region 6 with (go_at_call 33; refine (Hc.out _).mono ?_; rintro e w2 ⟨rfl, hb2⟩)
      have hown2 := ownsRow_below hown hb2
      have hbw := bth hb hb2
      clear hown hb hb2
      go_wp2_with (at_builtin; go_must (refine wpList_app rfl _ _ 27 rfl w.heap.size 9 i0 (.string ⟨#[]⟩) 1 16 Tryd.underlying27 hi hz0 hz1 hz2 rfl (by decide) _ ps.length (ps.map sv) rfl ?c1 ⟨w2.heap.size, 0, none⟩ 1 1 [sv p] rfl rfl ?c3 ?c4 ?c5 ?c6 ?c7 ?_))
      case c1 => exact hown2.alloc _
      case c3 =>
        intro j u hj
        exact row_alloc (w := w2) (cs := #[sv p]) j u hj
      case c4 => exact sv_one [p]
      case c5 => unfold maxLen; omega
      case c6 => omega
      case c7 => have := hbw.size; simp; omega
      intro v' w5 hown' hgrow hat
      go_wp2
      go_roundw
      case rel =>
        refine ⟨x, ps ++ [p], rfl, by rw [List.length_append, List.map_append]; exact hown', Hr.out, by simp; omega, hxs, ?_⟩
        exact (hbw.alloc hbw.size _).grown hgrow (by have := hbw.size; simp; omega) (fun q hq => (hown2.lt q hq).1)
      case measure => simp [intOf]; omega
end Go.Proofs.YtchpoggegdocpaaDoor
