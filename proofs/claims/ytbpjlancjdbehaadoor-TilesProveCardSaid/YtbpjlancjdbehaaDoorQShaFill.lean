/- sha.filled -/
import Derived.Test.YtbpjlancjdbehaaDoorQBits
import Derived.Test.YtbpjlancjdbehaaDoorShelf
set_option maxRecDepth 100000
namespace Go.Proofs.YtbpjlancjdbehaaDoor
open Go.RowKit Go.Spec
theorem repeatL_one (c : UInt8) : ∀ n, Lib.repeatL [c] n = List.replicate n c
  | 0 => rfl
  | n + 1 => by
    have ih := repeatL_one c n
    simp [Lib.repeatL, List.replicate_succ] at *
    try exact ih
theorem repeat_any (c : UInt8) (n : Nat) (w : World) (hn : n ≤ 1000000) :
    Calls Tryd.prog 94 #[.string ⟨#[c]⟩, .int .i64 n] w fun e w' => e = .returned (sv (List.replicate n c)) ∧ Below w.heap.size w w' :=
  (Tryd.strings_Repeat ⟨#[c]⟩ n w (by omega) (by simp [ByteArray.size]; omega)).mono fun e w' ⟨he, hb⟩ => ⟨by rw [he]; show Ending.returned (.string (mkS (Lib.repeatL [c] n))) = _; rw [repeatL_one], hb⟩
set_option maxHeartbeats 400000 in
theorem filled_any (l : List UInt8) (w : World) (hl : l.length ≤ 1000000000) :
    Calls Tryd.prog 71 #[sv l] w fun e w' => e = .returned (sv (padL l)) ∧ Below w.heap.size w w' := by
  obtain ⟨z, hz⟩ : ∃ z, (119 - l.length % 64) % 64 = z := ⟨_, rfl⟩
  have hz1 : (119 - (l.length : Int) % 64) % 64 = (z : Int) := by omega
  have hz2 : z ≤ 1000000 := by omega
  have Hfin := hid (show padL l = l ++ [128] ++ List.replicate z 0 ++ beL (l.length * 8) 8 by rw [padL, hz])
  clear hz
  have HB := Below.refl w.heap.size w
  go_enter Tryd.func71, Tryd.ntmps71
  go_wp2_with (first
    | (go_at_call 94; refine (repeat_any 0 z _ hz2).mono ?_; rintro e w1 ⟨rfl, hb⟩; replace HB := bth HB hb; clear hb)
    | (go_at_call 73; refine (put_int ((l.length : Int) * 8) 8 _ (by omega) (by omega) (by omega) (by omega)).mono ?_; rintro e w2 ⟨rfl, hb⟩; replace HB := bth HB hb; clear hb))
  go_ret
  exact ⟨by rw [Hfin.out]; simp [go_sem], HB⟩
end Go.Proofs.YtbpjlancjdbehaaDoor
