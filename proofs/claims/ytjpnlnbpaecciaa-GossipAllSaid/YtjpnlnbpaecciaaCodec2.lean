import Derived.Test.YtjpnlnbpaecciaaCodec
import Derived.Test.YtjpnlnbpaecciaaBase2
set_option maxRecDepth 100000
namespace Go.Proofs.Ytjpnlnbpaecciaa
open Go.RowKit Go.Spec
theorem Try.sizeU8 : (Try.prog.info? 5).map (·.size) = some 1 := by kernel_rfl
theorem Try.sizeHash : (Try.prog.info? 34).map (·.size) = some 32 := by kernel_rfl
theorem read_no (l : List UInt8) (w : World) (hn : l.length ≤ 9223372036854775807) (h : rd 0 l = none) :
    Calls Try.prog 76 #[sv l] w fun e w' => e = .returned (.tuple #[.int .u64 0, sv [], .bool false]) ∧ Below w.heap.size w w' :=
  (read_any l w hn).mono fun _ _ ⟨a, b⟩ => ⟨by rw [a, h]; rfl, b⟩
theorem read_yes (l : List UInt8) (w : World) (hn : l.length ≤ 9223372036854775807) {n : Nat} {r : List UInt8} (h : rd 0 l = some (n, r)) :
    Calls Try.prog 76 #[sv l] w fun e w' => e = .returned (.tuple #[.int .u64 n, sv r, .bool true]) ∧ Below w.heap.size w w' :=
  (read_any l w hn).mono fun _ _ ⟨a, b⟩ => ⟨by rw [a, h]; rfl, b⟩
theorem take_no (l : List UInt8) (n : Nat) (w : World) (hn : l.length ≤ 9223372036854775807) (h : l.length < n) :
    Calls Try.prog 91 #[sv l, .int .u64 n] w fun e w' => e = .returned (.tuple #[sv [], sv [], .bool false]) ∧ Below w.heap.size w w' :=
  (take_any l n w hn).mono fun _ _ ⟨a, b⟩ => ⟨by rw [a, takeV, if_pos h], b⟩
theorem take_yes (l : List UInt8) (n : Nat) (w : World) (hn : l.length ≤ 9223372036854775807) (h : n ≤ l.length) :
    Calls Try.prog 91 #[sv l, .int .u64 n] w fun e w' => e = .returned (.tuple #[sv (l.take n), sv (l.drop n), .bool true]) ∧ Below w.heap.size w w' :=
  (take_any l n w hn).mono fun _ _ ⟨a, b⟩ => ⟨by rw [a, takeV, if_neg (by omega)], b⟩
def cutL (l : List UInt8) : Option (List UInt8 × List UInt8) :=
  match rd 0 l with
  | none => none
  | some (n, r) => if r.length < n then none else some (r.take n, r.drop n)
def cutV : Option (List UInt8 × List UInt8) → Value
  | some (t, r) => .tuple #[sv t, sv r, .bool true]
  | none => .tuple #[sv [], sv [], .bool false]
set_option maxHeartbeats 400000 in
theorem cut_any (l : List UInt8) (w : World) (hn : l.length ≤ 9223372036854775807) :
    Calls Try.prog 71 #[sv l] w fun e w' => e = .returned (cutV (cutL l)) ∧ Below w.heap.size w w' := by
  cases hr : rd 0 l with
  | none =>
    have Hfin := hid (show cutL l = none by rw [cutL, hr])
    go_enter Try.func71, Try.ntmps71
    go_wp2_with (go_at_call 76; refine (read_no l _ hn hr).mono ?_; rintro e w1 ⟨rfl, hb⟩)
    go_ret3
    exact ⟨by rw [Hfin.out]; rfl, hb⟩
  | some x =>
    obtain ⟨n, r⟩ := x
    have hrl := (rd_some l 0 n r (by omega) hr).2
    by_cases hlt : r.length < n
    · have Hfin := hid (show cutL l = none by rw [cutL, hr]; simp [hlt])
      have Hlt := hid hlt; clear hlt
      have Hr := hid hr; clear hr
      go_enter Try.func71, Try.ntmps71
      go_wp2_with (first | (go_at_call 76; refine (read_yes l _ hn Hr.out).mono ?_; rintro e w1 ⟨rfl, hb⟩) | (go_at_call 91; refine (take_no r n _ (by omega) Hlt.out).mono ?_; rintro e w2 ⟨rfl, hb2⟩))
      go_ret3
      exact ⟨by rw [Hfin.out]; rfl, hb.trans (hb2.mono hb.size)⟩
    · have Hfin := hid (show cutL l = some (r.take n, r.drop n) by rw [cutL, hr]; simp [hlt])
      have Hlt := hid (show n ≤ r.length by omega); clear hlt
      have Hr := hid hr; clear hr
      go_enter Try.func71, Try.ntmps71
      go_wp2_with (first | (go_at_call 76; refine (read_yes l _ hn Hr.out).mono ?_; rintro e w1 ⟨rfl, hb⟩) | (go_at_call 91; refine (take_yes r n _ (by omega) Hlt.out).mono ?_; rintro e w2 ⟨rfl, hb2⟩))
      go_ret3
      exact ⟨by rw [Hfin.out]; rfl, hb.trans (hb2.mono hb.size)⟩
set_option maxHeartbeats 400000 in
theorem hash_any (h : List UInt8) (w : World) (hh : h.length = 32) :
    Calls Try.prog 52 #[hv h] w fun e w' => e = .returned (sv h) ∧ Below w.heap.size w w' := by
  have Hh := hid hh
  have hcv : (convert 79 9 (.slice (some ⟨w.heap.size, 0, none⟩) 32 32)).run Try.prog (w.alloc (.cells (hc h) 34)) = .ok (sv h) (w.alloc (.cells (hc h) 34)) := by
    have := run_convert_bytes_back (P := Try.prog) (w := w.alloc (.cells (hc h) 34)) 79 9 5 ⟨w.heap.size, 0, none⟩ 32 h Try.underlying79 Try.underlying5 Try.underlying9
      (fun j hj => by rw [cell_at_row (heap_alloc_new w _), hc_get h j hj]; rfl)
    rw [hh] at this
    exact this
  clear hh
  go_enter Try.func52, Try.ntmps52
  go_wp2
  go_ret
  exact ⟨rfl, (Below.refl _ _).alloc (Nat.le_refl _) _⟩
def unhashV (l : List UInt8) : Value := if l.length < 32 then .tuple #[hv zero32, sv [], .bool false] else .tuple #[hv (l.take 32), sv (l.drop 32), .bool true]
set_option maxHeartbeats 400000 in
theorem unhash_no (l : List UInt8) (w : World) (hlt : l.length < 32) :
    Calls Try.prog 77 #[sv l] w fun e w' => e = .returned (.tuple #[hv zero32, sv [], .bool false]) ∧ Below w.heap.size w w' := by
  have Hlt := hid hlt
  have hn : l.length ≤ 9223372036854775807 := by omega
  clear hlt
  go_enter Try.func77, Try.ntmps77
  go_wp2_with (first
    | (go_at_call 91; refine (take_no l 32 _ hn Hlt.out).mono ?_; rintro e w1 ⟨rfl, hb⟩; have Hg : Hid (w1.heap[w.heap.size]? = some (.cells (hc zero32) 34)) := hid ((hb.block _ (by simp)).trans (heap_alloc_new _ _)))
    | (refine wpList_copy_string rfl _ _ 79 9 5 rfl w.heap.size 0 32 32 rfl [] rfl _ 34 Try.underlying79 Try.sizeU8 Hg.out (by simp [hc, zero32]) (hc zero32) (by simp [hc]) ?_; have Hg2 := hid (setRow_get (cs := hc zero32) Hg.out))
    | (refine wpList_load_row rfl 34 _ rfl w.heap.size rfl 34 (hc zero32) (0, 0) _ Hg2.out Try.underlying34 rfl Try.sizeHash ?_)
    | (refine wpList_store_hc rfl 34 _ _ rfl w.heap.size rfl zero32 rfl _ 34 Hg2.out (by simp [hc]) Try.sizeHash ?_; have Hg3 := hid (setRow_get (cs := hc zero32) Hg2.out)))
  refine bodyPost_ret (results_cell3 rfl _ w.heap.size 34 (hc zero32) (0, 0) _ rfl Hg3.out Try.underlying34 rfl Try.sizeHash) rfl ⟨rfl, ?_⟩
  exact (((((Below.refl _ _).alloc (Nat.le_refl _) _).trans (hb.mono (by simp)))).setRow (Nat.le_refl _) _).setRow (Nat.le_refl _) _
set_option maxHeartbeats 400000 in
theorem unhash_yes (l : List UInt8) (w : World) (hlt : 32 ≤ l.length) (hn : l.length ≤ 9223372036854775807) :
    Calls Try.prog 77 #[sv l] w fun e w' => e = .returned (.tuple #[hv (l.take 32), sv (l.drop 32), .bool true]) ∧ Below w.heap.size w w' := by
  have Hlt := hid hlt
  have hs : (Try.prog.info? 34).map (·.size) = some (hc (l.take 32)).size := by rw [Try.sizeHash, hc_size]; simp; omega
  have hs2 : (Try.prog.info? 34).map (·.size) = some (l.take 32).length := by rw [Try.sizeHash]; simp; omega
  have hnew : (List.take 0 (hc zero32).toList ++ (List.take 32 (l.take 32)).map bcell ++ List.drop (0 + (List.take 32 (l.take 32)).length) (hc zero32).toList).toArray = hc (l.take 32) := by
    simp only [List.take_take, Nat.min_self, List.take_zero, List.nil_append, Nat.zero_add]
    rw [List.drop_eq_nil_of_le (by simp [hc, zero32]; omega)]
    simp [hc]
  have Hnew := hid hnew
  have Hs := hid hs
  have Hs2 := hid hs2
  have Hlen := hid (show (l.take 32).length = 32 by simp; omega)
  clear hlt hs hs2 hnew
  generalize hL : l.take 32 = L at *
  have HL := hid hL
  clear hL
  go_enter Try.func77, Try.ntmps77
  go_wp2_with (first
    | (go_at_call 91; refine (take_yes l 32 _ hn Hlt.out).mono ?_; rw [HL.out]; rintro e w1 ⟨rfl, hb⟩; have Hg : Hid (w1.heap[w.heap.size]? = some (.cells (hc zero32) 34)) := hid ((hb.block _ (by simp)).trans (heap_alloc_new _ _)))
    | (refine wpList_copy_string rfl _ _ 79 9 5 rfl w.heap.size 0 32 32 rfl L rfl _ 34 Try.underlying79 Try.sizeU8 Hg.out (by simp [hc, zero32]) (hc L) Hnew.out ?_; have Hg2 := hid (setRow_get (cs := hc L) Hg.out))
    | (refine wpList_load_row rfl 34 _ rfl w.heap.size rfl 34 (hc L) (0, 0) _ Hg2.out Try.underlying34 rfl Hs.out ?_)
    | (refine wpList_store_hc rfl 34 _ _ rfl w.heap.size rfl L rfl _ 34 Hg2.out (by simp [hc]) Hs2.out ?_; have Hg3 := hid (setRow_get (cs := hc L) Hg2.out)))
  refine bodyPost_ret (results_cell3 rfl _ w.heap.size 34 (hc L) (0, 0) _ rfl Hg3.out Try.underlying34 rfl Hs.out) rfl ⟨rfl, ?_⟩
  exact (((((Below.refl _ _).alloc (Nat.le_refl _) _).trans (hb.mono (by simp)))).setRow (Nat.le_refl _) _).setRow (Nat.le_refl _) _
end Go.Proofs.Ytjpnlnbpaecciaa
