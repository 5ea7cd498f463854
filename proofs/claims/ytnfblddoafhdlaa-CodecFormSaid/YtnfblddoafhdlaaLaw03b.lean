import Derived.Test.YtnfblddoafhdlaaLaw03
set_option maxRecDepth 100000
namespace Go.Proofs.Ytnfblddoafhdlaa
open Go.RowKit Go.Spec
theorem bch {w a b : World} (h : Below w.heap.size w a) (k : Below a.heap.size a b) : Below w.heap.size w b := h.trans (k.mono h.size)
theorem SlAt.nil (w : World) : SlAt w 32 (.slice none 0 0) (hcs []) := ⟨none, 0, rfl, Nat.le_refl _, fun _ h => by simp [hcs] at h, fun i cs h => by simp [hcs] at h⟩
set_option maxHeartbeats 400000 in
theorem no_any (l : List UInt8) (w : World) (hn : l.length ≤ 9223372036854775807) (h : rd 0 l = none) :
    Calls Try.prog 26 #[sv l] w fun e w' => e = .returned (.bool true) ∧ Below w.heap.size w w' := by
  go_enter Try.func26, Try.ntmps26
  go_wp2_with (go_at_call 17; refine (read_no l _ hn h).mono ?_; rintro e w1 ⟨rfl, hb⟩)
  go_ret
  exact ⟨rfl, hb⟩
theorem ex_read (w : World) : Calls Try.prog 17 #[.string ⟨#[130, 44, 120]⟩] w fun e w' => e = .returned (.tuple #[.int .u64 300, .string ⟨#[120]⟩, .bool true]) ∧ Below w.heap.size w w' :=
  read_yes [130, 44, 120] w (by decide) (n := 300) (r := [120]) (by decide)
theorem ex_cut1 (w : World) : Calls Try.prog 19 #[.string ⟨#[2, 97, 98, 99]⟩] w fun e w' => e = .returned (.tuple #[.string ⟨#[97, 98]⟩, .string ⟨#[99]⟩, .bool true]) ∧ Below w.heap.size w w' :=
  (cut_any [2, 97, 98, 99] w (by decide)).mono fun _ _ ⟨a, b⟩ => ⟨by rw [a, show cutL [2, 97, 98, 99] = some ([97, 98], [99]) by decide]; rfl, b⟩
theorem ex_cut2 (w : World) : Calls Try.prog 19 #[.string ⟨#[3, 97, 98]⟩] w fun e w' => e = .returned (.tuple #[.string ⟨#[]⟩, .string ⟨#[]⟩, .bool false]) ∧ Below w.heap.size w w' :=
  (cut_any [3, 97, 98] w (by decide)).mono fun _ _ ⟨a, b⟩ => ⟨by rw [a, show cutL [3, 97, 98] = none by decide]; rfl, b⟩
theorem ex_unhashes (w : World) : Calls Try.prog 23 #[.string ⟨#[0, 120]⟩] w fun e w' => (∃ a cap, e = .returned (.tuple #[.slice a 0 cap, .string ⟨#[120]⟩, .bool true])) ∧ Below w.heap.size w w' :=
  (unhashes_any [0, 120] w (by decide)).mono fun _ _ h => by
    obtain ⟨v, hv, hown⟩ := h.yes [] [120] (by decide)
    obtain ⟨a, cap, rfl, _⟩ := ownsRow_form hown
    exact ⟨⟨a, cap, hv⟩, h.below⟩
theorem ex_num0 (w : World) : Calls Try.prog 11 #[.int .u64 0] w fun e w' => e = .returned (.string ⟨#[0]⟩) ∧ Below w.heap.size w w' :=
  (num_any 0 w (by decide)).mono fun _ _ ⟨a, b⟩ => ⟨by rw [a, show numL 0 = [0] by decide]; rfl, b⟩
theorem ex_num127 (w : World) : Calls Try.prog 11 #[.int .u64 127] w fun e w' => e = .returned (.string ⟨#[127]⟩) ∧ Below w.heap.size w w' :=
  (num_any 127 w (by decide)).mono fun _ _ ⟨a, b⟩ => ⟨by rw [a, show numL 127 = [127] by decide]; rfl, b⟩
theorem ex_num300 (w : World) : Calls Try.prog 11 #[.int .u64 300] w fun e w' => e = .returned (.string ⟨#[130, 44]⟩) ∧ Below w.heap.size w w' :=
  (num_any 300 w (by decide)).mono fun _ _ ⟨a, b⟩ => ⟨by rw [a, show numL 300 = [130, 44] by decide]; rfl, b⟩
theorem ex_no1 (w : World) : Calls Try.prog 26 #[.string ⟨#[128, 5]⟩] w fun e w' => e = .returned (.bool true) ∧ Below w.heap.size w w' :=
  no_any [128, 5] w (by decide) (by decide)
theorem ex_no2 (w : World) : Calls Try.prog 26 #[.string ⟨#[130]⟩] w fun e w' => e = .returned (.bool true) ∧ Below w.heap.size w w' :=
  no_any [130] w (by decide) (by decide)
theorem ex_text (w : World) : Calls Try.prog 13 #[.string ⟨#[97, 98]⟩] w fun e w' => e = .returned (.string ⟨#[2, 97, 98]⟩) ∧ Below w.heap.size w w' :=
  (text_any [97, 98] w (by decide)).mono fun _ _ ⟨a, b⟩ => ⟨by rw [a, show numL ([97, 98] : List UInt8).length ++ ([97, 98] : List UInt8) = [2, 97, 98] by decide]; rfl, b⟩
theorem ex_hashes (w : World) : Calls Try.prog 15 #[.slice none 0 0] w fun e w' => e = .returned (.string ⟨#[0]⟩) ∧ Below w.heap.size w w' :=
  (hashes_any _ [] w (SlAt.nil w) (by decide)).mono fun _ _ ⟨a, b⟩ => ⟨by rw [a, show hashesL [] = [0] by decide]; rfl, b⟩
set_option maxHeartbeats 1000000 in
theorem coded_any (w : World) : Calls Try.prog 8 #[] w fun e w' => e = .returned (.bool true) ∧ Below w.heap.size w w' := by
  have HB := Below.refl w.heap.size w
  go_enter Try.func8, Try.ntmps8
  go_wp2_with (first
    | (go_at_call 17; with_reducible refine (ex_read _).mono ?_; rintro e w1 ⟨rfl, hb⟩; replace HB := bch HB hb; clear hb)
    | (go_at_call 19; ((with_reducible refine (ex_cut1 _).mono ?_); rintro e w1 ⟨rfl, hb⟩; replace HB := bch HB hb; clear hb))
    | (go_at_call 19; ((with_reducible refine (ex_cut2 _).mono ?_); rintro e w1 ⟨rfl, hb⟩; replace HB := bch HB hb; clear hb))
    | (go_at_call 23; ((with_reducible refine (ex_unhashes _).mono ?_); rintro e w1 ⟨⟨a, cap, rfl⟩, hb⟩; replace HB := bch HB hb; clear hb))
    | (go_at_call 11; ((with_reducible refine (ex_num0 _).mono ?_); rintro e w1 ⟨rfl, hb⟩; replace HB := bch HB hb; clear hb))
    | (go_at_call 11; ((with_reducible refine (ex_num127 _).mono ?_); rintro e w1 ⟨rfl, hb⟩; replace HB := bch HB hb; clear hb))
    | (go_at_call 11; ((with_reducible refine (ex_num300 _).mono ?_); rintro e w1 ⟨rfl, hb⟩; replace HB := bch HB hb; clear hb))
    | (go_at_call 26; ((with_reducible refine (ex_no1 _).mono ?_); rintro e w1 ⟨rfl, hb⟩; replace HB := bch HB hb; clear hb))
    | (go_at_call 26; ((with_reducible refine (ex_no2 _).mono ?_); rintro e w1 ⟨rfl, hb⟩; replace HB := bch HB hb; clear hb))
    | (go_at_call 13; ((with_reducible refine (ex_text _).mono ?_); rintro e w1 ⟨rfl, hb⟩; replace HB := bch HB hb; clear hb))
    | (go_at_call 15; ((with_reducible refine (ex_hashes _).mono ?_); rintro e w1 ⟨rfl, hb⟩; replace HB := bch HB hb; clear hb)))
  go_ret
  exact ⟨rfl, HB⟩
end Go.Proofs.Ytnfblddoafhdlaa
