/- codec.Num, Text, Hash, take, Unhash (for seats without the rest of codec) -/
import Derived.Test.YtchpoggegdocpaaDoorCodecLaw
import Derived.Test.YtchpoggegdocpaaDoorShaLaid
import Derived.Test.YtchpoggegdocpaaDoorZero
set_option maxRecDepth 100000
namespace Go.Proofs.YtchpoggegdocpaaDoor
open Go.RowKit Go.Spec
theorem Tryd.infoU8 : (Tryd.prog.info? 5).map (fun i => (i.zero, i.size, i.bytes)) = some (some (.int .u8 0), 1, 1) := by kernel_rfl
theorem or128 (m : Nat) : bits BinOp.or IntKind.u8 ((m : Int) % 128) 128 = ((m % 128 + 128 : Nat) : Int) := by
  have h : ∀ k : Fin 128, bits BinOp.or IntKind.u8 ((k.val : Nat) : Int) 128 = ((k.val + 128 : Nat) : Int) := by decide +kernel
  exact h ⟨m % 128, by omega⟩
set_option maxHeartbeats 400000 in
theorem num_any (n : Nat) (w : World) (hn : n < 18446744073709551616) :
    Calls Tryd.prog 56 #[.int .u64 n] w fun e w' => e = .returned (sv (numL n)) ∧ Below w.heap.size w w' := by
  obtain ⟨i0, hi, hz0, hz1, hz2⟩ := info_parts Tryd.infoU8
  have hlen := numL_len n hn
  have Hn := hid hn; have Hlen := hid hlen
  clear hlen
  go_enter Tryd.func56, Tryd.ntmps56
  go_wp2
  go_loopw [0, 3] (fun x b wr => ∃ (m : Nat) (l : List UInt8), x = .int .u64 m ∧ m < 18446744073709551616 ∧ wr.ownsRow w.heap.size 5 1 b l.length (l.map bcell) ∧ hiN m ++ l = numL n ∧ 0 < l.length ∧ Below w.heap.size w wr)
    (fun x _ _ => (intOf x).toNat)
  case atStart =>
    refine ⟨n / 128, [lob n], by simp, by omega, ?_, rfl, by simp, (Below.refl _ _).alloc (Nat.le_refl _) _⟩
    have := ownsRow_lit (w := w) (base := w.heap.size) (e := 5) (bcell (lob n)) (Nat.le_refl _)
    simpa [lob_cell] using this
  case round =>
    obtain ⟨m, l, rfl, hm, hown, he, hl, hb⟩ := hrel
    have hl2 : l.length ≤ 10 := by have hlen := Hlen.out; rw [← he] at hlen; simp at hlen; omega
    have He := hid he; clear he
    by_cases h0 : m = 0
    · subst h0
      have hcv := run_string_own (P := Tryd.prog) (w := wr) 35 9 5 Tryd.underlying35 Tryd.underlying5 Tryd.underlying9 hown
      go_wp2
      go_ret
      exact ⟨by rw [← He.out]; simp [hiN_zero], hb⟩
    · have h1 : 0 < m := by omega
      obtain ⟨g, cap, rfl, hg1, hg2, hg3, hg4⟩ := ownsRow_some hown hl
      clear h0
      have hor := or128 m
      go_wp2_with (at_builtin; refine wpList_append_own _ rfl _ _ 35 rfl w.heap.size 5 i0 (.int .u8 0) 1 1 Tryd.underlying35 hi hz0 hz1 hz2 rfl (by decide) (.slice (some ⟨wr.heap.size, 0, none⟩) 1 1) 1 [.int .u8 ((m : Int) % 128 + 128)] rfl ?c0 ⟨g, 0, none⟩ l.length cap (l.map bcell) rfl ?c1 ?c2 ?c3 ?c4 ?c5 ?c6 ?_)
      case c0 =>
        exact ownsRow_lit (w := wr) (base := w.heap.size) (e := 5) _ hb.size
      case c1 => simp
      case c2 => exact cell_row_alloc hg2 hg4
      case c3 => exact bcell_one l
      case c4 => unfold maxLen; omega
      case c5 => omega
      case c6 => have := hb.size; simp; omega
      intro v' w1 hown' hgrow _
      go_wp2
      go_roundw
      case rel =>
        refine ⟨m / 128, hib m :: l, by simp, by omega, ?_, ?_, by simp, ?_⟩
        · simp only [List.map_cons, List.length_cons, hib_cell]
          rw [Nat.add_comm]
          simpa using hown'
        · rw [← He.out, hiN_pos m h1]; simp
        · exact (hb.alloc hb.size _).grown hgrow (by have := hb.size; simp; omega) (by intro k hk; simp [Value.ownBlock] at hk; have := hb.size; omega)
      case measure => simp [intOf]; omega
set_option maxHeartbeats 400000 in
theorem text_any (l : List UInt8) (w : World) (hn : l.length ≤ 1000000000) :
    Calls Tryd.prog 42 #[sv l] w fun e w' => e = .returned (sv (numL l.length ++ l)) ∧ Below w.heap.size w w' := by
  have hlen := numL_len l.length (by omega)
  go_enter Tryd.func42, Tryd.ntmps42
  go_wp2_with (go_at_call 56; refine (num_any _ _ (by omega)).mono ?_; rintro e w1 ⟨rfl, hb⟩)
  go_ret
  exact ⟨rfl, hb⟩
def takeV (l : List UInt8) (n : Nat) : Value := if l.length < n then .tuple #[sv [], sv [], .bool false] else .tuple #[sv (l.take n), sv (l.drop n), .bool true]
set_option maxHeartbeats 400000 in
theorem take_any (l : List UInt8) (n : Nat) (w : World) (hn : l.length ≤ 9223372036854775807) :
    Calls Tryd.prog 58 #[sv l, .int .u64 n] w fun e w' => e = .returned (takeV l n) ∧ Below w.heap.size w w' := by
  by_cases h : l.length < n
  · have hd : decide (l.length < n) = true := by simpa using h
    have Hh := hid h; clear h
    go_enter Tryd.func58, Tryd.ntmps58
    go_wp2
    go_ret3
    exact ⟨by rw [takeV, if_pos Hh.out]; rfl, Below.refl _ _⟩
  · have hd : decide (l.length < n) = false := by simpa using h
    have h : n ≤ l.length := by omega
    go_enter Tryd.func58, Tryd.ntmps58
    go_upto_region 3 with (fail)
    go_quiet (fail)
    go_wp2
    go_ret3
    exact ⟨by rw [takeV, if_neg (by omega)]; simp, below_drewN (Below.refl _ _) _⟩
theorem take_no (l : List UInt8) (n : Nat) (w : World) (hn : l.length ≤ 9223372036854775807) (h : l.length < n) :
    Calls Tryd.prog 58 #[sv l, .int .u64 n] w fun e w' => e = .returned (.tuple #[sv [], sv [], .bool false]) ∧ Below w.heap.size w w' :=
  (take_any l n w hn).mono fun _ _ ⟨a, b⟩ => ⟨by rw [a, takeV, if_pos h], b⟩
theorem take_yes (l : List UInt8) (n : Nat) (w : World) (hn : l.length ≤ 9223372036854775807) (h : n ≤ l.length) :
    Calls Tryd.prog 58 #[sv l, .int .u64 n] w fun e w' => e = .returned (.tuple #[sv (l.take n), sv (l.drop n), .bool true]) ∧ Below w.heap.size w w' :=
  (take_any l n w hn).mono fun _ _ ⟨a, b⟩ => ⟨by rw [a, takeV, if_neg (by omega)], b⟩
set_option maxHeartbeats 400000 in
theorem hash_any (h : List UInt8) (w : World) (hh : h.length = 32) :
    Calls Tryd.prog 36 #[hv h] w fun e w' => e = .returned (sv h) ∧ Below w.heap.size w w' := by
  have Hh := hid hh
  have hcv : (convert 35 9 (.slice (some ⟨w.heap.size, 0, none⟩) 32 32)).run Tryd.prog (w.alloc (.cells (hc h) 42)) = .ok (sv h) (w.alloc (.cells (hc h) 42)) := by
    have := run_convert_bytes_back (P := Tryd.prog) (w := w.alloc (.cells (hc h) 42)) 35 9 5 ⟨w.heap.size, 0, none⟩ 32 h Tryd.underlying35 Tryd.underlying5 Tryd.underlying9
      (fun j hj => by rw [cell_at_row (heap_alloc_new w _), hc_get h j hj]; rfl)
    rw [hh] at this
    exact this
  clear hh
  go_enter Tryd.func36, Tryd.ntmps36
  go_wp2
  go_ret
  exact ⟨rfl, (Below.refl _ _).alloc (Nat.le_refl _) _⟩
def unhashV (l : List UInt8) : Value := if l.length < 32 then .tuple #[hv zero32, sv [], .bool false] else .tuple #[hv (l.take 32), sv (l.drop 32), .bool true]
set_option maxHeartbeats 400000 in
theorem unhash_no (l : List UInt8) (w : World) (hlt : l.length < 32) :
    Calls Tryd.prog 46 #[sv l] w fun e w' => e = .returned (.tuple #[hv zero32, sv [], .bool false]) ∧ Below w.heap.size w w' := by
  have Hlt := hid hlt
  have hn : l.length ≤ 9223372036854775807 := by omega
  clear hlt
  go_enter Tryd.func46, Tryd.ntmps46
  go_wp2_with (first
    | (go_at_call 58; refine (take_no l 32 _ hn Hlt.out).mono ?_; rintro e w1 ⟨rfl, hb⟩; have Hg : Hid (w1.heap[w.heap.size]? = some (.cells (hc zero32) 42)) := hid ((hb.block _ (by simp)).trans (heap_alloc_new _ _)))
    | (refine wpList_copy_string rfl _ _ 35 9 5 rfl w.heap.size 0 32 32 rfl [] rfl _ 42 Tryd.underlying35 Tryd.sizeU8 Hg.out (by simp [hc, zero32]) (hc zero32) (by simp [hc]) ?_; have Hg2 := hid (setRow_get (cs := hc zero32) Hg.out))
    | (refine wpList_load_row rfl 42 _ rfl w.heap.size rfl 42 (hc zero32) (0, 0) _ Hg2.out Tryd.underlying42 rfl Tryd.sizeHash ?_)
    | (refine wpList_store_hc rfl 42 _ _ rfl w.heap.size rfl zero32 rfl _ 42 Hg2.out (by simp [hc]) Tryd.sizeHash ?_; have Hg3 := hid (setRow_get (cs := hc zero32) Hg2.out)))
  refine bodyPost_ret (results_cell3 rfl _ w.heap.size 42 (hc zero32) (0, 0) _ rfl Hg3.out Tryd.underlying42 rfl Tryd.sizeHash) rfl ⟨rfl, ?_⟩
  exact (((((Below.refl _ _).alloc (Nat.le_refl _) _).trans (hb.mono (by simp)))).setRow (Nat.le_refl _) _).setRow (Nat.le_refl _) _
set_option maxHeartbeats 400000 in
theorem unhash_yes (l : List UInt8) (w : World) (hlt : 32 ≤ l.length) (hn : l.length ≤ 9223372036854775807) :
    Calls Tryd.prog 46 #[sv l] w fun e w' => e = .returned (.tuple #[hv (l.take 32), sv (l.drop 32), .bool true]) ∧ Below w.heap.size w w' := by
  have Hlt := hid hlt
  have hs : (Tryd.prog.info? 42).map (·.size) = some (hc (l.take 32)).size := by rw [Tryd.sizeHash, hc_size]; simp; omega
  have hs2 : (Tryd.prog.info? 42).map (·.size) = some (l.take 32).length := by rw [Tryd.sizeHash]; simp; omega
  have hnew : (List.take 0 (hc zero32).toList ++ (List.take 32 (l.take 32)).map bcell ++ List.drop (0 + (List.take 32 (l.take 32)).length) (hc zero32).toList).toArray = hc (l.take 32) := by
    simp only [List.take_take, Nat.min_self, List.take_zero, List.nil_append, Nat.zero_add]
    rw [List.drop_eq_nil_of_le (by simp [hc, zero32]; omega)]
    simp [hc]
  have Hnew := hid hnew
  have Hs := hid hs
  have Hs2 := hid hs2
  have Hlen := hid (show (l.take 32).length = 32 by simp; omega)
  clear hlt hs hs2 hnew
  generalize hL : l.take 32 = L at *
  have HL := hid hL
  clear hL
  go_enter Tryd.func46, Tryd.ntmps46
  go_wp2_with (first
    | (go_at_call 58; refine (take_yes l 32 _ hn Hlt.out).mono ?_; rw [HL.out]; rintro e w1 ⟨rfl, hb⟩; have Hg : Hid (w1.heap[w.heap.size]? = some (.cells (hc zero32) 42)) := hid ((hb.block _ (by simp)).trans (heap_alloc_new _ _)))
    | (refine wpList_copy_string rfl _ _ 35 9 5 rfl w.heap.size 0 32 32 rfl L rfl _ 42 Tryd.underlying35 Tryd.sizeU8 Hg.out (by simp [hc, zero32]) (hc L) Hnew.out ?_; have Hg2 := hid (setRow_get (cs := hc L) Hg.out))
    | (refine wpList_load_row rfl 42 _ rfl w.heap.size rfl 42 (hc L) (0, 0) _ Hg2.out Tryd.underlying42 rfl Hs.out ?_)
    | (refine wpList_store_hc rfl 42 _ _ rfl w.heap.size rfl L rfl _ 42 Hg2.out (by simp [hc]) Hs2.out ?_; have Hg3 := hid (setRow_get (cs := hc L) Hg2.out)))
  refine bodyPost_ret (results_cell3 rfl _ w.heap.size 42 (hc L) (0, 0) _ rfl Hg3.out Tryd.underlying42 rfl Hs.out) rfl ⟨rfl, ?_⟩
  exact (((((Below.refl _ _).alloc (Nat.le_refl _) _).trans (hb.mono (by simp)))).setRow (Nat.le_refl _) _).setRow (Nat.le_refl _) _
end Go.Proofs.YtchpoggegdocpaaDoor
