/- speculumlaw14.of -/
import Derived.Test.YtbpjlancjdbehaaDoorQTileRef

set_option maxRecDepth 100000
namespace Go.Proofs.YtbpjlancjdbehaaDoor
open Go.RowKit Go.Spec
set_option maxHeartbeats 2000000 in
theorem of_any (v : Value) (hs : List (List UInt8)) (w : World) (hl : hs.length ≤ 4096) (hS : SlAt w 32 v (hcs hs)) (hG : ShaG w) :
    Calls Tryd.prog 11 #[v] w fun e w' => (∃ g b, e = .returned (.tuple #[.pointer (some ⟨g, 0, none⟩), .bool true]) ∧ TilesAt w' g b hs ∧ w.heap.size ≤ g ∧ w.heap.size ≤ b) ∧ Below w.heap.size w w' := by
  obtain ⟨a, cap, rfl, hcap⟩ := hS.formH
  have HS := hid hS; have HG := hid hG
  have H32 := hid hS.len32
  clear hS hG
  go_enter Tryd.func11, Tryd.ntmps11
  go_wp2_with (go_at_call 21; refine (tnew_any _).mono ?_; rintro e w1 ⟨rfl, ht1, hb1⟩)
  have HT1 := hid ht1; have HB1 := hid hb1
  clear ht1 hb1
  obtain ⟨g, hg⟩ : ∃ g, w.heap.size + 1 = g := ⟨_, rfl⟩
  obtain ⟨b, hb⟩ : ∃ b, w.heap.size = b := ⟨_, rfl⟩
  have Hgb := hid (show w.heap.size ≤ g ∧ w.heap.size ≤ b by omega)
  rw [hg] at HT1
  simp only [hg]
  have HT2 := hid (show TilesAt w1 g b [] by have := HT1.out; rwa [hb] at this)
  clear HT1 hg hb
  go_loopw [5] (fun iv wr => ∃ k : Nat, k ≤ hs.length ∧ iv = .int .i64 (k : Int) ∧ TilesAt wr g b (hs.take k) ∧ Below w.heap.size w wr) (fun iv _ => hs.length - (intOf iv).toNat)
  case atStart => exact ⟨0, by omega, rfl, by simpa using HT2.out, HB1.out⟩
  case round =>
    obtain ⟨k, hk, rfl, hT, hb⟩ := hrel
    clear HT2 HB1
    have HT := hid hT; have HB := hid hb
    by_cases hlt : k < hs.length
    · have hd : decide (k < hs.length) = true := by simpa using hlt
      obtain ⟨bb, o, rfl, hbl, hcl, hcell⟩ := (HS.out.below hb (Nat.le_refl _)).at (i := k) (cs := hs[k].map bcell) (by simp [hcs, hlt])
      have hX := H32.out _ (List.getElem_mem hlt)
      have Hnext := hid (show hs.take (k + 1) = hs.take k ++ [hs[k]] from List.take_succ_eq_append_getElem hlt)
      have Hsx := hid (show (Tryd.prog.info? 29).map (·.size) = some hs[k].length by rw [hX]; exact Tryd.sizeHash)
      have ADD := hid (tadd_any g b (hs.take k) hs[k] wr hT hX (by rw [List.length_take]; omega) (HG.out.later hb))
      generalize hs[k] = X at *
      have Hcell := hid hcell
      clear hcell hcl hT hb hX
      go_wp2_with (first
        | (refine wpList_load_hc rfl 29 _ rfl ⟨bb, o + k * 32, none⟩ rfl X _ Hcell.out Tryd.underlying29 rfl Hsx.out ?_)
        | (go_at_call 22; refine ADD.out.mono ?_; rintro e w2 ⟨rfl, hT2, h2⟩))
      go_roundw
      case rel => exact ⟨k + 1, by omega, by go_num, by rw [Hnext.out]; exact hT2, HB.out.trans (h2.below HB.out.size Hgb.out.1 Hgb.out.2)⟩
      case measure => simp [intOf]; omega
    · obtain rfl : k = hs.length := by omega
      have hd : decide (hs.length < hs.length) = false := by simp
      rw [List.take_length] at hT
      have HTn := hid hT
      have HSZ := hid (tsize_any g b hs wr hT)
      clear hT hb HT
      go_wp2_with (go_at_call 23; refine HSZ.out.mono ?_; rintro e w2 ⟨rfl, rfl⟩)
      go_ret2
      exact ⟨⟨g, b, by simp, HTn.out, Hgb.out.1, Hgb.out.2⟩, HB.out⟩
end Go.Proofs.YtbpjlancjdbehaaDoor
