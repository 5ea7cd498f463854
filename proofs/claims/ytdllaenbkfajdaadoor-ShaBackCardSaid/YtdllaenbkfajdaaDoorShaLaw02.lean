/- the chapter's examples: speculumlaw02.hashed -/
import Derived.Test.YtdllaenbkfajdaaDoorShaParse2
set_option maxRecDepth 100000
namespace Go.Proofs.YtdllaenbkfajdaaDoor
open Go.RowKit Go.Spec
theorem ex_parse1 (w : World) : Calls Tryd.prog 25 #[.string ⟨#[65, 65, 65, 65, 65, 65, 65, 65, 65, 65, 65, 65, 65, 65, 65, 65, 65, 65, 65, 65, 65, 65, 65, 65, 65, 65, 65, 65, 65, 65, 65, 65, 65, 65, 65, 65, 65, 65, 65, 65, 65, 65, 65, 65, 65, 65, 65, 65, 65, 65, 65, 65, 65, 65, 65, 65, 65, 65, 65, 65, 65, 65, 65, 65]⟩] w fun e w' => e = .returned (.tuple #[hv zero32, .bool false]) ∧ Below w.heap.size w w' :=
  (parse_any [65, 65, 65, 65, 65, 65, 65, 65, 65, 65, 65, 65, 65, 65, 65, 65, 65, 65, 65, 65, 65, 65, 65, 65, 65, 65, 65, 65, 65, 65, 65, 65, 65, 65, 65, 65, 65, 65, 65, 65, 65, 65, 65, 65, 65, 65, 65, 65, 65, 65, 65, 65, 65, 65, 65, 65, 65, 65, 65, 65, 65, 65, 65, 65] w (by decide)).mono fun _ _ ⟨a, b⟩ => ⟨by rw [a, show prH [65, 65, 65, 65, 65, 65, 65, 65, 65, 65, 65, 65, 65, 65, 65, 65, 65, 65, 65, 65, 65, 65, 65, 65, 65, 65, 65, 65, 65, 65, 65, 65, 65, 65, 65, 65, 65, 65, 65, 65, 65, 65, 65, 65, 65, 65, 65, 65, 65, 65, 65, 65, 65, 65, 65, 65, 65, 65, 65, 65, 65, 65, 65, 65] = zero32 by decide +kernel, show prB [65, 65, 65, 65, 65, 65, 65, 65, 65, 65, 65, 65, 65, 65, 65, 65, 65, 65, 65, 65, 65, 65, 65, 65, 65, 65, 65, 65, 65, 65, 65, 65, 65, 65, 65, 65, 65, 65, 65, 65, 65, 65, 65, 65, 65, 65, 65, 65, 65, 65, 65, 65, 65, 65, 65, 65, 65, 65, 65, 65, 65, 65, 65, 65] = false by decide +kernel], b⟩
theorem ex_parse2 (w : World) : Calls Tryd.prog 25 #[.string ⟨#[97, 97, 97, 97, 97, 97, 97, 97, 97, 97, 97, 97, 97, 97, 97, 97, 97, 97, 97, 97, 97, 97, 97, 97, 97, 97, 97, 97, 97, 97, 97, 97, 97, 97, 97, 97, 97, 97, 97, 97, 97, 97, 97, 97, 97, 97, 97, 97, 97, 97, 97, 97, 97, 97, 97, 97, 97, 97, 97, 97, 97, 97, 97]⟩] w fun e w' => e = .returned (.tuple #[hv zero32, .bool false]) ∧ Below w.heap.size w w' :=
  (parse_any [97, 97, 97, 97, 97, 97, 97, 97, 97, 97, 97, 97, 97, 97, 97, 97, 97, 97, 97, 97, 97, 97, 97, 97, 97, 97, 97, 97, 97, 97, 97, 97, 97, 97, 97, 97, 97, 97, 97, 97, 97, 97, 97, 97, 97, 97, 97, 97, 97, 97, 97, 97, 97, 97, 97, 97, 97, 97, 97, 97, 97, 97, 97] w (by decide)).mono fun _ _ ⟨a, b⟩ => ⟨by rw [a, show prH [97, 97, 97, 97, 97, 97, 97, 97, 97, 97, 97, 97, 97, 97, 97, 97, 97, 97, 97, 97, 97, 97, 97, 97, 97, 97, 97, 97, 97, 97, 97, 97, 97, 97, 97, 97, 97, 97, 97, 97, 97, 97, 97, 97, 97, 97, 97, 97, 97, 97, 97, 97, 97, 97, 97, 97, 97, 97, 97, 97, 97, 97, 97] = zero32 by decide +kernel, show prB [97, 97, 97, 97, 97, 97, 97, 97, 97, 97, 97, 97, 97, 97, 97, 97, 97, 97, 97, 97, 97, 97, 97, 97, 97, 97, 97, 97, 97, 97, 97, 97, 97, 97, 97, 97, 97, 97, 97, 97, 97, 97, 97, 97, 97, 97, 97, 97, 97, 97, 97, 97, 97, 97, 97, 97, 97, 97, 97, 97, 97, 97, 97] = false by decide +kernel], b⟩
theorem ex_sum0 (w : World) (hG : ShaG w) : Calls Tryd.prog 23 #[.string ⟨#[]⟩] w fun e w' => e = .returned (hv (sumL [])) ∧ Below w.heap.size w w' := sum_any [] w (by decide) hG
theorem ex_sum1 (w : World) (hG : ShaG w) : Calls Tryd.prog 23 #[.string ⟨#[97, 98, 99]⟩] w fun e w' => e = .returned (hv (sumL [97, 98, 99])) ∧ Below w.heap.size w w' := sum_any [97, 98, 99] w (by decide) hG
theorem hex_nil : hexL (sumL []) = [101, 51, 98, 48, 99, 52, 52, 50, 57, 56, 102, 99, 49, 99, 49, 52, 57, 97, 102, 98, 102, 52, 99, 56, 57, 57, 54, 102, 98, 57, 50, 52, 50, 55, 97, 101, 52, 49, 101, 52, 54, 52, 57, 98, 57, 51, 52, 99, 97, 52, 57, 53, 57, 57, 49, 98, 55, 56, 53, 50, 98, 56, 53, 53] := by rw [sum_nil]; decide +kernel
theorem hex_abc : hexL (sumL [97, 98, 99]) = [98, 97, 55, 56, 49, 54, 98, 102, 56, 102, 48, 49, 99, 102, 101, 97, 52, 49, 52, 49, 52, 48, 100, 101, 53, 100, 97, 101, 50, 50, 50, 51, 98, 48, 48, 51, 54, 49, 97, 51, 57, 54, 49, 55, 55, 97, 57, 99, 98, 52, 49, 48, 102, 102, 54, 49, 102, 50, 48, 48, 49, 53, 97, 100] := by rw [sum_abc]; decide +kernel
theorem ex_hex0 (w : World) : Calls Tryd.prog 27 #[hv (sumL [])] w fun e w' => e = .returned (.string ⟨#[101, 51, 98, 48, 99, 52, 52, 50, 57, 56, 102, 99, 49, 99, 49, 52, 57, 97, 102, 98, 102, 52, 99, 56, 57, 57, 54, 102, 98, 57, 50, 52, 50, 55, 97, 101, 52, 49, 101, 52, 54, 52, 57, 98, 57, 51, 52, 99, 97, 52, 57, 53, 57, 57, 49, 98, 55, 56, 53, 50, 98, 56, 53, 53]⟩) ∧ Below w.heap.size w w' :=
  (hex_any (sumL []) w (sumL_len _)).mono fun _ _ ⟨a, b⟩ => ⟨by rw [a, hex_nil]; rfl, b⟩
theorem ex_hex1 (w : World) : Calls Tryd.prog 27 #[hv (sumL [97, 98, 99])] w fun e w' => e = .returned (.string ⟨#[98, 97, 55, 56, 49, 54, 98, 102, 56, 102, 48, 49, 99, 102, 101, 97, 52, 49, 52, 49, 52, 48, 100, 101, 53, 100, 97, 101, 50, 50, 50, 51, 98, 48, 48, 51, 54, 49, 97, 51, 57, 54, 49, 55, 55, 97, 57, 99, 98, 52, 49, 48, 102, 102, 54, 49, 102, 50, 48, 48, 49, 53, 97, 100]⟩) ∧ Below w.heap.size w w' :=
  (hex_any (sumL [97, 98, 99]) w (sumL_len _)).mono fun _ _ ⟨a, b⟩ => ⟨by rw [a, hex_abc]; rfl, b⟩
set_option maxHeartbeats 1000000 in
theorem hashed_any (w : World) (hG : ShaG w) : Calls Tryd.prog 22 #[] w fun e w' => e = .returned (.bool true) ∧ Below w.heap.size w w' := by
  have HB := Below.refl w.heap.size w
  have HG := hid hG; clear hG
  have Hsz := hid (show (Tryd.prog.info? 25).map (·.size) = some (hc zero32).size by rw [hc_size]; exact Tryd.sizeHash)
  go_enter Tryd.func22, Tryd.ntmps22
  go_wp2_with fail
  refine (ex_parse1 _).mono ?_
  rintro e w1 ⟨rfl, hb⟩
  replace HB := bth HB hb; clear hb
  go_wp2_with ((with_reducible show wpList _ _ _ ({ dst := _, op := Op.store _ _ _, type := _, pos := _, after := _, guard := _ } :: _) _ _); refine wpList_store_blk rfl 25 _ _ rfl w1.heap.size rfl (hc zero32) rfl _ _ (Blk.new _ _ _) rfl Hsz.out (hc_row_one _) ?_; replace HB := ((HB.alloc HB.size (.cells (hc zero32) 25)).setRow HB.size (hc zero32)))
  refine (ex_parse2 _).mono ?_
  rintro e w2 ⟨rfl, hb⟩
  replace HB := bth HB hb; clear hb
  go_wp2_with ((with_reducible show wpList _ _ _ ({ dst := _, op := Op.store _ _ _, type := _, pos := _, after := _, guard := _ } :: _) _ _); refine wpList_store_blk rfl 25 _ _ rfl w2.heap.size rfl (hc zero32) rfl _ _ (Blk.new _ _ _) rfl Hsz.out (hc_row_one _) ?_; replace HB := ((HB.alloc HB.size (.cells (hc zero32) 25)).setRow HB.size (hc zero32)))
  refine (ex_sum0 _ (HG.out.later HB)).mono ?_
  rintro e w3 ⟨rfl, hb⟩
  replace HB := bth HB hb; clear hb
  go_wp2_with fail
  refine (ex_hex0 _).mono ?_
  rintro e w4 ⟨rfl, hb⟩
  replace HB := bth HB hb; clear hb
  go_wp2_with fail
  refine (ex_sum1 _ (HG.out.later HB)).mono ?_
  rintro e w5 ⟨rfl, hb⟩
  replace HB := bth HB hb; clear hb
  go_wp2_with fail
  refine (ex_hex1 _).mono ?_
  rintro e w6 ⟨rfl, hb⟩
  replace HB := bth HB hb; clear hb
  go_wp2
  go_ret
  exact ⟨rfl, HB⟩
end Go.Proofs.YtdllaenbkfajdaaDoor
