/- frames.Get, frames.Whole -/
import Derived.Test.YtchpoggegdocpaaDoorFrameCut
set_option maxRecDepth 100000
namespace Go.Proofs.YtchpoggegdocpaaDoor
open Go.RowKit Go.Spec
theorem cut_none (v : Value) (l : List UInt8) (w : World) (hB : BsAt w v l) (hl : l.length ≤ 1000000) (h : cutF l = none) (hG : ShaG w) :
    Calls Tryd.prog 35 #[v] w fun e w' => (∃ p r, e = .returned (.tuple #[p, r, .bool false])) ∧ Below w.heap.size w w' := by
  by_cases h12 : l.length < 12
  · exact (cut_short v l w hB h12).mono fun _ _ ⟨a, b⟩ => ⟨a, by subst b; exact Below.refl _ _⟩
  · by_cases hn : 65536 < beN (l.take 4) ∨ l.length - 12 < beN (l.take 4)
    · exact (cut_bad v l w hB hl h12 hn).mono fun _ _ ⟨a, b⟩ => ⟨a, by subst b; exact Below.refl _ _⟩
    · rw [cutF_parts l h12 hn] at h
      refine (cut_read v l w w hB (Below.refl _ _) hl h12 hn hG).mono fun _ _ ⟨⟨vp, vr, a, _, _⟩, b⟩ => ⟨⟨vp, vr, ?_⟩, b⟩
      rw [a]
      by_cases hm : markL ((l.drop 12).take (beN (l.take 4))) = l.take 12
      · rw [if_pos hm] at h; cases h
      · rw [show (markL ((l.drop 12).take (beN (l.take 4))) == l.take 12) = false from beq_eq_false_iff_ne.mpr hm]
theorem cut_some (v : Value) (l p r : List UInt8) (w0 w : World) (hB : BsAt w0 v l) (hb0 : Below w0.heap.size w0 w) (hl : l.length ≤ 1000000) (h : cutF l = some (p, r)) (hG : ShaG w) :
    Calls Tryd.prog 35 #[v] w fun e w' => (∃ vp vr, e = .returned (.tuple #[vp, vr, .bool true]) ∧ BsAt w0 vp p ∧ BsAt w0 vr r) ∧ Below w.heap.size w w' := by
  by_cases h12 : l.length < 12
  · unfold cutF at h; rw [if_pos h12] at h; cases h
  · by_cases hn : 65536 < beN (l.take 4) ∨ l.length - 12 < beN (l.take 4)
    · unfold cutF at h; rw [if_neg h12, if_pos hn] at h; cases h
    · rw [cutF_parts l h12 hn] at h
      by_cases hm : markL ((l.drop 12).take (beN (l.take 4))) = l.take 12
      · rw [if_pos hm] at h
        injection h with h
        injection h with h1 h2
        refine (cut_read v l w0 w hB hb0 hl h12 hn hG).mono fun _ _ ⟨⟨vp, vr, a, b1, b2⟩, b⟩ => ⟨⟨vp, vr, ?_, by rw [← h1]; exact b1, by rw [← h2]; exact b2⟩, b⟩
        rw [a, show (markL ((l.drop 12).take (beN (l.take 4))) == l.take 12) = true from beq_iff_eq.mpr hm]
      · rw [if_neg hm] at h; cases h
/-- what stands at a place -/
def fgetL (s : List UInt8) (k : Int) : List UInt8 × Nat × Bool :=
  if k < 0 ∨ (s.length : Int) < k then ([], 0, false) else match cutF (s.drop k.toNat) with
    | none => ([], 0, false)
    | some (p, r) => (p, s.length - r.length, true)
def fgetV (x : List UInt8 × Nat × Bool) : Value := .tuple #[sv x.1, .int .i64 (x.2.1 : Int), .bool x.2.2]
set_option maxHeartbeats 1000000 in
theorem fget_any (s : List UInt8) (k : Int) (w : World) (hl : s.length ≤ 1000000) (hk : -9223372036854775808 ≤ k ∧ k ≤ 9223372036854775807) (hG : ShaG w) :
    Calls Tryd.prog 29 #[sv s, .int .i64 k] w fun e w' => e = .returned (fgetV (fgetL s k)) ∧ Below w.heap.size w w' := by
  have HG := hid hG; clear hG
  by_cases h0 : k < 0
  · have hf : fgetL s k = ([], 0, false) := by unfold fgetL; rw [if_pos (.inl h0)]
    rw [hf]
    have d0 : decide (k < 0) = true := by simpa using h0
    clear hf
    go_enter Tryd.func29, Tryd.ntmps29
    go_wp2
    go_ret3
    exact ⟨rfl, Below.refl _ _⟩
  · have d0 : decide (k < 0) = false := by simpa using h0
    by_cases h1 : (s.length : Int) < k
    · have hf : fgetL s k = ([], 0, false) := by unfold fgetL; rw [if_pos (.inr h1)]
      rw [hf]
      have d1 : decide ((s.length : Int) < k) = true := by simpa using h1
      clear hf
      go_enter Tryd.func29, Tryd.ntmps29
      go_wp2
      go_ret3
      exact ⟨rfl, Below.refl _ _⟩
    · obtain ⟨m, rfl⟩ : ∃ m : Nat, k = m := ⟨k.toNat, by omega⟩
      have hf : fgetL s m = match cutF (s.drop m) with
          | none => ([], 0, false)
          | some (p, r) => (p, s.length - r.length, true) := by unfold fgetL; rw [if_neg (by omega)]; simp
      have d1 : decide ((s.length : Int) < (m : Int)) = false := by simp; omega
      have hD : (s.drop m).length ≤ 1000000 := by rw [List.length_drop]; omega
      have hms : m ≤ s.length := by omega
      have hms2 : (m : Int) ≤ (s.length : Int) := by omega
      cases hc : cutF (s.drop m) with
      | none =>
        rw [hc] at hf
        simp only at hf
        rw [hf]
        have Hc := hid (fun v w0 hB0 h0 => cut_none v (s.drop m) w0 hB0 hD hc h0)
        have HD := hid (show (s.drop m).length ≤ maxLen by unfold maxLen; omega)
        clear hf hc h0 h1 hD
        go_enter Tryd.func29, Tryd.ntmps29
        go_wp2_with (first
          | ((with_reducible show wpList _ _ _ ({ dst := _, op := Op.convert 9 35 _, type := _, pos := _, after := _, guard := _ } :: _) _ _); refine wpList_convM rfl 9 35 5 _ rfl (s.drop m) rfl Tryd.underlying9 Tryd.underlying35 Tryd.underlying5 HD.out ?_; intro v w1 hrow hb1)
          | (go_at_call 35; refine (Hc.out _ _ (BsAt.of_row hrow) (HG.out.later hb1)).mono ?_; rintro e w2 ⟨⟨vp, vr, rfl⟩, hb2⟩))
        go_ret3
        exact ⟨rfl, bth hb1 hb2⟩
      | some pr =>
        obtain ⟨p, r⟩ := pr
        rw [hc] at hf
        simp only at hf
        rw [hf]
        have Hc := hid (fun v w0 hB0 h0 => cut_some v (s.drop m) p r w0 w0 hB0 (Below.refl _ _) hD hc h0)
        have HD := hid (show (s.drop m).length ≤ maxLen by unfold maxLen; omega)
        have hr : r.length ≤ s.length := by
          have := (cutF_len hc).1
          rw [List.length_drop] at this
          omega
        have hsub : (s.length : Int) - (r.length : Int) = ((s.length - r.length : Nat) : Int) := by omega
        generalize s.length - r.length = x at *
        clear hf hc h0 h1 hD
        go_enter Tryd.func29, Tryd.ntmps29
        go_wp2_with (first
          | ((with_reducible show wpList _ _ _ ({ dst := _, op := Op.convert 9 35 _, type := _, pos := _, after := _, guard := _ } :: _) _ _); refine wpList_convM rfl 9 35 5 _ rfl (s.drop m) rfl Tryd.underlying9 Tryd.underlying35 Tryd.underlying5 HD.out ?_; intro v w1 hrow hb1)
          | (go_at_call 35; refine (Hc.out _ _ (BsAt.of_row hrow) (HG.out.later hb1)).mono ?_; rintro e w2 ⟨⟨vp, vr, rfl, hp2, hr2⟩, hb2⟩; have hcvp := (hp2.below hb2).conv (P := Tryd.prog) 35 9 5 Tryd.underlying35 Tryd.underlying5 Tryd.underlying9; obtain ⟨adr, capr, rfl, hcr, _⟩ := hr2.form; clear hp2 hr2 hrow))
        go_ret3
        exact ⟨rfl, bth hb1 hb2⟩
theorem Tryd.infoStr : (Tryd.prog.info? 9).map (fun i => (i.zero, i.size, i.bytes)) = some (some (.string ⟨#[]⟩), 1, 16) := by kernel_rfl
theorem ownsRow_below {w w' : World} {base e size n : Nat} {v : Value} {xs : List Value} (h : w.ownsRow base e size v n xs) (hb : Below w.heap.size w w') : w'.ownsRow base e size v n xs := by
  obtain ⟨h1, h2⟩ := h
  refine ⟨h1, ?_⟩
  rcases h2 with h2 | ⟨g, cap, cur, e1, e2, e3, e4⟩
  · exact .inl h2
  · exact .inr ⟨g, cap, cur, e1, e2, (hb.block g (Array.getElem?_eq_some_iff.1 e3).1).trans e3, e4⟩
theorem ownsRow_base {w : World} {base base' e size n : Nat} {v : Value} {xs : List Value} (h : w.ownsRow base e size v n xs) (hb : base' ≤ base) : w.ownsRow base' e size v n xs := by
  obtain ⟨h1, h2⟩ := h
  refine ⟨h1, ?_⟩
  rcases h2 with h2 | ⟨g, cap, cur, e1, e2, e3, e4⟩
  · exact .inl h2
  · exact .inr ⟨g, cap, cur, e1, Nat.le_trans hb e2, e3, e4⟩
/-- how many cells -/
def slenOf : Value → Nat
  | .slice _ n _ => n
  | _ => 0
theorem sv_one (ps : List (List UInt8)) : ∀ u ∈ ps.map sv, u.oneCell' = true := by
  intro u hu; simp at hu; obtain ⟨b, _, rfl⟩ := hu; rfl
set_option maxHeartbeats 1000000 in
theorem whole_any (s : List UInt8) (w : World) (hl : s.length ≤ 1000000) (hG : ShaG w) :
    Calls Tryd.prog 15 #[sv s] w fun e w' => (∃ v, e = .returned (.tuple #[v, .int .i64 ((s.length - (wholeL s).2.length : Nat) : Int)]) ∧ w'.ownsRow w.heap.size 9 1 v (wholeL s).1.length ((wholeL s).1.map sv)) ∧ Below w.heap.size w w' := by
  have HG := hid hG; clear hG
  obtain ⟨i0, hi, hz0, hz1, hz2⟩ := info_parts Tryd.infoStr
  have HD := hid (show s.length ≤ maxLen by unfold maxLen; omega)
  go_enter Tryd.func15, Tryd.ntmps15
  go_wp2_with ((with_reducible show wpList _ _ _ ({ dst := _, op := Op.convert 9 35 _, type := _, pos := _, after := _, guard := _ } :: _) _ _); refine wpList_convM rfl 9 35 5 _ rfl s rfl Tryd.underlying9 Tryd.underlying35 Tryd.underlying5 HD.out ?_; intro v w1 hrow hb1)
  go_loopw [2, 4] (fun v2 v4 wr => ∃ (r : List UInt8) (ps : List (List UInt8)), BsAt w1 v4 r ∧ wr.ownsRow w1.heap.size 9 1 v2 ps.length (ps.map sv) ∧ wholeL s = (ps ++ (wholeL r).1, (wholeL r).2) ∧ ps.length + r.length ≤ s.length ∧ Below w1.heap.size w1 wr) (fun _ v4 _ => slenOf v4)
  case atStart => exact ⟨s, [], BsAt.of_row hrow, World.ownsRow_nil _ _ _ _, rfl, by simp, Below.refl _ _⟩
  case round =>
    obtain ⟨r, ps, hB, hown, hW, hlen, hb⟩ := hrel
    have Hb1 := hid hb1
    clear hrow hb1
    have HW := hid hW; clear hW
    have hrl : r.length ≤ 1000000 := by omega
    cases hc : cutF r with
    | none =>
      have Hc := hid (cut_none _ r wr (hB.below hb) hrl hc (HG.out.later (bth Hb1.out hb)))
      have Hr := hid (show (wholeL s) = (ps, r) by rw [HW.out, wholeL_none hc, List.append_nil])
      obtain ⟨ad, cap, rfl, hcap, _⟩ := hB.form
      have hsub : (s.length : Int) - (r.length : Int) = ((s.length - r.length : Nat) : Int) := by omega
      obtain ⟨av, cv, rfl, hcv⟩ := ownsRow_form hown
      clear hB hc
      go_wp2_with (go_at_call 35; refine (Hc.out).mono ?_; rintro e w2 ⟨⟨vp, vr, rfl⟩, hb2⟩)
      go_ret2
      exact ⟨⟨.slice av ps.length cv, by rw [Hr.out]; rfl, by rw [Hr.out]; exact ownsRow_base (ownsRow_below hown hb2) Hb1.out.size⟩, bth Hb1.out (bth hb hb2)⟩
    | some pr =>
      obtain ⟨p, q⟩ := pr
      have Hc := hid (cut_some _ r p q w1 wr hB hb hrl hc (HG.out.later (bth Hb1.out hb)))
      have Hr := hid (show (wholeL s) = ((ps ++ [p]) ++ (wholeL q).1, (wholeL q).2) by rw [HW.out, wholeL_some hc, List.append_assoc]; rfl)
      have hlq : p.length + 12 + q.length ≤ r.length := Nat.le_of_eq (cutF_len hc).1.symm
      obtain ⟨ad, cap, rfl, hcap, _⟩ := hB.form
      clear hB hc
      go_upto_region 5 with (go_at_call 35; refine (Hc.out).mono ?_; rintro e w2 ⟨⟨vp, vr, rfl, hp2, hr2⟩, hb2⟩)
      have hcvp := (hp2.below (bth hb hb2)).conv (P := Tryd.prog) 35 9 5 Tryd.underlying35 Tryd.underlying5 Tryd.underlying9
      obtain ⟨adq, capq, rfl, _, _⟩ := hr2.form
      have hown2 := ownsRow_below hown hb2
      have HR2 := hid hr2
      have hbw := bth hb hb2
      clear hown hp2 hr2 hb hb2
      go_wp2_with (at_builtin; go_must (refine wpList_app rfl _ _ 27 rfl w1.heap.size 9 i0 (.string ⟨#[]⟩) 1 16 Tryd.underlying27 hi hz0 hz1 hz2 rfl (by decide) _ ps.length (ps.map sv) rfl ?c1 ⟨w2.heap.size, 0, none⟩ 1 1 [sv p] rfl rfl ?c3 ?c4 ?c5 ?c6 ?c7 ?_))
      case c1 => exact hown2.alloc _
      case c3 =>
        intro j u hj
        exact row_alloc (w := w2) (cs := #[sv p]) j u hj
      case c4 => exact sv_one [p]
      case c5 => unfold maxLen; omega
      case c6 => omega
      case c7 => have := hbw.size; simp; omega
      intro v' w5 hown' hgrow hat
      go_wp2
      go_roundw
      case rel =>
        refine ⟨q, ps ++ [p], HR2.out, by rw [List.length_append, List.map_append]; exact hown', Hr.out, by simp; omega, ?_⟩
        exact (hbw.alloc hbw.size _).grown hgrow (by have := hbw.size; simp; omega) (fun q hq => (hown2.lt q hq).1)
      case measure => simp [slenOf]; omega
end Go.Proofs.YtchpoggegdocpaaDoor
