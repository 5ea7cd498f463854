/- the law FramesRow: the walk -/
import Derived.Test.YtchpoggegdocpaaDoorFrameRow
set_option maxRecDepth 100000
namespace Go.Proofs.YtchpoggegdocpaaDoor
open Go.RowKit Go.Spec
theorem ends_row {w : World} {base : Nat} {v : Value} {ls : List (List UInt8)} (h : w.ownsRow base 3 1 v (ls.length + 1) ((endsTo ls ls.length).map icell)) :
    ∃ g cap, v = .slice (some ⟨g, 0, none⟩) (ls.length + 1) cap ∧ g < w.heap.size ∧ ∀ j, j ≤ ls.length → w.cell? ⟨g, j, none⟩ = some (.int .i64 (endsL ls j : Int)) := by
  obtain ⟨g, cap, hv, hb, hg, hn, hc⟩ := ownsRow_some h (by omega)
  refine ⟨g, cap, hv, hg, fun j hj => ?_⟩
  have := hc j (icell (endsL ls j)) (by rw [List.getElem?_map, endsTo_get ls ls.length j hj]; rfl)
  rw [Addr.add_lit, Nat.zero_add] at this
  exact this
theorem ends_le (ls : List (List UInt8)) (j : Nat) : endsL ls j ≤ (framesL ls).length := by
  unfold endsL
  have := frames_split ls j
  rw [this, List.length_append]; omega
set_option maxHeartbeats 2000000 in
theorem framesRow_law (v : Value) (ls : List (List UInt8)) (bh : List UInt8) (p : Nat) (w : World) (hS : StrsAt w v ls) (hl : ls.length ≤ 9223372036854775807) (hb : bh.length ≤ 9223372036854775807) (hp : p < 65536) (hG : ShaG w) :
    Calls Tryd.prog 4 #[v, sv bh, .int .u16 (p : Int)] w fun e w' => e = .returned (.bool true) ∧ Below w.heap.size w w' := by
  have HG := hid hG; clear hG
  have R := hid (row_any v ls w hS hl)
  have Fr := hid (fun w0 h0 => framed_any w0 h0)
  clear hS
  go_enter Tryd.func4, Tryd.ntmps4
  go_wp2_with fail
  refine R.out.mono ?_
  intro e w1 ho
  rcases ho with ⟨hno, rfl, hb1⟩ | ⟨hok, ⟨vi, rfl, hv⟩, hb1⟩
  · clear hno
    go_wp2_with (go_at_call 10; refine (Fr.out _ (HG.out.later hb1)).mono ?_; rintro e w5 ⟨rfl, hb5⟩)
    go_ret
    exact ⟨rfl, bth hb1 hb5⟩
  · by_cases hbh : 100 < bh.length
    · have hd : decide ((100 : Int) < (bh.length : Int)) = true := by simp; omega
      clear hok hv hbh
      go_wp2_with (go_at_call 10; refine (Fr.out _ (HG.out.later hb1)).mono ?_; rintro e w5 ⟨rfl, hb5⟩)
      go_ret
      exact ⟨rfl, bth hb1 hb5⟩
    · have hd : decide ((100 : Int) < (bh.length : Int)) = false := by simp; omega
      obtain ⟨g, cap, rfl, hg, hcell⟩ := ends_row hv
      have hfl := frames_le ls hok.2
      have hl20 := hok.1
      obtain ⟨j, hj⟩ : ∃ j, p % (ls.length + 1) = j := ⟨_, rfl⟩
      have hjl : j ≤ ls.length := by have := Nat.mod_lt p (show 0 < ls.length + 1 by omega); omega
      have ej : (p : Int) % ((ls.length : Int) + 1) = (j : Int) := by rw [← hj]; simp
      have hc := hcell j hjl
      have hel := ends_le ls j
      have hSl : (framesL ls ++ bh).length ≤ 20000 := by rw [List.length_append]; omega
      obtain ⟨q, hq⟩ : ∃ q, p % ((framesL ls ++ bh).length + 1) = q := ⟨_, rfl⟩
      have eq : (p : Int) % (((framesL ls ++ bh).length : Int) + 1) = (q : Int) := by rw [← hq]; simp
      have hqb : q ≤ 65536 := by have := Nat.mod_le p ((framesL ls ++ bh).length + 1); omega
      have S1 := hid (fun w0 h0 => stands_any (framesL ls ++ bh) (endsL ls j : Int) w0 (by omega) (by omega) h0)
      have S2 := hid (fun w0 h0 => stands_any (framesL ls ++ bh) (q : Int) w0 (by omega) (by omega) h0)
      have hjI : (j : Int) < (ls.length : Int) + 1 := by omega
      have hfl2 : (framesL ls).length ≤ 10240 := by omega
      have hbh2 : bh.length ≤ 100 := by omega
      have hSum := hid (show (framesL ls ++ bh).length = (framesL ls).length + bh.length from List.length_append)
      clear hok hv hcell hj hq hfl hbh hel
      rw [hSum.out] at eq
      generalize endsL ls j = E at *
      generalize framesL ls = G at *
      have eq2 : (p : Int) % ((G.length : Int) + (bh.length : Int) + 1) = (q : Int) := by rw [← eq]; congr 1
      clear eq
      go_wp2_with (first
        | (go_at_call 13; first | ((with_reducible refine (S1.out _ (HG.out.later hb1)).mono ?_); rintro e w3 ⟨rfl, hb3⟩) | ((with_reducible refine (S2.out _ (HG.out.later (bth hb1 hb3))).mono ?_); rintro e w4 ⟨rfl, hb4⟩; have HB4 := bth (bth hb1 hb3) hb4; clear hb3 hb4))
        | (go_at_call 10; refine (Fr.out _ (HG.out.later HB4)).mono ?_; rintro e w5 ⟨rfl, hb5⟩))
      go_ret
      exact ⟨rfl, bth HB4 hb5⟩
end Go.Proofs.YtchpoggegdocpaaDoor
