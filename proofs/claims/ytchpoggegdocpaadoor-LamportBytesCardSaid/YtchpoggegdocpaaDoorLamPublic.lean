/- lamport.shown, Public -/
import Derived.Test.YtchpoggegdocpaaDoorLamSecret
import Derived.Test.YtchpoggegdocpaaDoorHashRow
set_option maxRecDepth 100000
namespace Go.Proofs.YtchpoggegdocpaaDoor
open Go.RowKit Go.Spec
theorem Tryd.infoHashP : (Tryd.prog.info? 42).map (fun i => (i.zero, i.size, i.bytes)) = some (some (hv zero32), 32, 32) := by kernel_rfl
def shownL (s : List UInt8) : List UInt8 := sumL (3 :: s)
theorem shownL_len (s : List UInt8) : (shownL s).length = 32 := sumL_len _
def pubN (seed : List UInt8) (a k : Nat) : List UInt8 := shownL (secN seed a (k / 2) (k % 2))
def pubs (seed : List UInt8) (a n : Nat) : List (List UInt8) := (List.range n).map (pubN seed a)
theorem pubs_len (seed : List UInt8) (a n : Nat) : (pubs seed a n).length = n := by simp [pubs]
theorem pubs_next (seed : List UInt8) (a n : Nat) : pubs seed a (n + 1) = pubs seed a n ++ [pubN seed a n] := by simp [pubs, List.range_succ]
theorem pubs_32 (seed : List UInt8) (a n : Nat) : ∀ x ∈ pubs seed a n, x.length = 32 := by
  intro x hx
  unfold pubs at hx
  obtain ⟨i, _, rfl⟩ := List.mem_map.mp hx
  exact shownL_len _
theorem pubs_set (seed : List UInt8) (a k : Nat) (hk : k < 512) : (pubs seed a k ++ List.replicate (512 - k) zero32).set k (pubN seed a k) = pubs seed a (k + 1) ++ List.replicate (512 - (k + 1)) zero32 := by
  rw [show 512 - k = (512 - (k + 1)) + 1 by omega, List.replicate_succ, List.set_append_right _ _ (by rw [pubs_len]; exact Nat.le_refl _), pubs_len, Nat.sub_self, List.set_cons_zero, pubs_next, List.append_assoc]
  rfl
set_option maxHeartbeats 1000000 in
theorem shown_any (s : List UInt8) (w : World) (hs : s.length ≤ 1000000) (hG : ShaG w) :
    Calls Tryd.prog 45 #[sv s] w fun e w' => e = .returned (hv (shownL s)) ∧ Below w.heap.size w w' := by
  have HG := hid hG; clear hG
  have HB0 : Below w.heap.size w (w.alloc (.cells (hc zero32) 42)) := (Below.refl _ w).alloc (Nat.le_refl _) _
  have hl := shownL_len s
  have Hs := hid (show (Tryd.prog.info? 42).map (·.size) = some (hc (shownL s)).size by rw [hc_size, hl]; exact Tryd.sizeHash)
  have Hl := hid (show (hc (shownL s)).size = (hc zero32).size by rw [hc_size, hl]; rfl)
  have HS := hid (show ∀ w0, ShaG w0 → Calls Tryd.prog 41 #[sv (3 :: s)] w0 fun e w' => e = .returned (hv (shownL s)) ∧ Below w0.heap.size w0 w' from fun w0 h0 => sum_any (3 :: s) w0 (by simp; omega) h0)
  go_enter Tryd.func45, Tryd.ntmps45
  go_wp2_with (first
    | (go_at_call 41; refine (HS.out _ (HG.out.later HB0)).mono ?_; rintro e w1 ⟨rfl, hb⟩; have hB := (Blk.new w (hc zero32) 42).later hb; have HB := bth HB0 hb; clear hb)
    | ((with_reducible show wpList _ _ _ ({ dst := _, op := Op.store _ _ _, type := _, pos := _, after := _, guard := _ } :: _) _ _); refine wpList_store_blk rfl 42 _ _ rfl w.heap.size rfl (hc (shownL s)) rfl _ _ hB Hl.out Hs.out (hc_row_one _) ?_))
  refine bodyPost_ret (results_cell_row rfl _ _ w.heap.size 42 _ (0, 0) _ rfl (hB.setRow) Tryd.underlying42 rfl Hs.out) rfl ⟨rfl, ?_⟩
  exact HB.setRow (Nat.le_refl _) _
set_option maxHeartbeats 1000000 in
theorem public_out (seed : List UInt8) (x : Int) (w : World) (h : x < 0 ∨ 2147483648 ≤ x) :
    Calls Tryd.prog 26 #[sv seed, .int .i64 x] w fun e w' => e = .returned (.slice none 0 0) ∧ w = w' := by
  by_cases h0 : x < 0
  · have d0 : decide (x < 0) = true := by simpa using h0
    clear h
    go_enter Tryd.func26, Tryd.ntmps26
    go_wp2
    go_ret
    exact ⟨rfl, rfl⟩
  · have d0 : decide (x < 0) = false := by simpa using h0
    have d1 : decide (2147483648 ≤ x) = true := by simp; omega
    clear h
    go_enter Tryd.func26, Tryd.ntmps26
    go_wp2
    go_ret
    exact ⟨rfl, rfl⟩
set_option maxHeartbeats 2000000 in
theorem public_in (seed : List UInt8) (a : Nat) (w : World) (hs : seed.length ≤ 1000000) (hia : a < 2147483648) (hG : ShaG w) :
    Calls Tryd.prog 26 #[sv seed, .int .i64 (a : Int)] w fun e w' => (∃ g, e = .returned (.slice (some ⟨g, 0, none⟩) 512 512) ∧ HsBlk w' g (pubs seed a 512) 42 ∧ w.heap.size ≤ g) ∧ Below w.heap.size w w' := by
  have HG := hid hG; clear hG
  obtain ⟨i0, hi, hz0, hz1, hz2⟩ := info_parts Tryd.infoHashP
  have d0 : decide ((a : Int) < 0) = false := by simp
  have d1 : decide ((2147483648 : Int) ≤ (a : Int)) = false := by simp; omega
  have hmk := run_make_hashes (P := Tryd.prog) 49 42 i0 Tryd.underlying49 hi hz0 hz1 hz2 512 (by omega) 512 rfl
  have hB0 : HsBlk (w.alloc (.cells (hc (List.replicate 512 zero32).flatten) 42)) w.heap.size (List.replicate 512 zero32) 42 := ⟨Blk.new _ _ _, fun x hx => by rw [List.eq_of_mem_replicate hx]; rfl⟩
  have HB0 := hid hB0
  generalize hfl : hc (List.replicate 512 zero32).flatten = fl at *
  have Hfl := hid hfl; clear hfl hB0
  go_enter Tryd.func26, Tryd.ntmps26
  go_wp2
  go_loopw [16] (fun t wr => ∃ k : Nat, k ≤ 512 ∧ t = .int .i64 (k : Int) ∧ HsBlk wr w.heap.size (pubs seed a k ++ List.replicate (512 - k) zero32) 42 ∧ Below w.heap.size w wr) (fun t _ => 512 - (intOf t).toNat)
  case atStart => exact ⟨0, by omega, rfl, HB0.out, (Below.refl _ _).alloc (Nat.le_refl _) _⟩
  case round =>
    obtain ⟨k, hk, rfl, hB, hb⟩ := hrel
    clear HB0
    by_cases hlt : k < 512
    · have hset := hid (pubs_set seed a k hlt)
      obtain ⟨q, hq⟩ : ∃ q, k / 2 = q := ⟨_, rfl⟩
      obtain ⟨r, hr⟩ : ∃ r, k % 2 = r := ⟨_, rfl⟩
      have eq : (k : Int) / 2 = (q : Int) := by omega
      have er : (k : Int) % 2 = (r : Int) := by omega
      have S := hid (fun w0 h0 => secret_in seed a q r w0 hs hia (by omega) (by omega) h0)
      have H := hid (fun w0 => hash_any (secN seed a q r) w0 (secN_len _ _ _ _))
      have W := hid (fun w0 h0 => shown_any (secN seed a q r) w0 (by rw [secN_len]; omega) h0)
      have Hres := hid (show shownL (secN seed a q r) = pubN seed a k by rw [← hq, ← hr]; rfl)
      rw [Hres.out] at W
      have hl := shownL_len (secN seed a q r)
      rw [Hres.out] at hl
      have Hl := hid hl
      have Hlen := hid (show (pubs seed a k ++ List.replicate (512 - k) zero32).length = 512 by rw [List.length_append, pubs_len, List.length_replicate]; omega)
      have HBk := hid hB
      have hd : decide ((k : Int) < 512) = true := by simp; omega
      clear hq hr hl hB Hres
      generalize secN seed a q r = X at *
      generalize pubN seed a k = Y at *
      generalize pubs seed a k ++ List.replicate (512 - k) zero32 = L at *
      go_wp2_with (first
        | (go_at_call 20; refine (S.out _ (HG.out.later hb)).mono ?_; rintro e w1 ⟨rfl, hb1⟩)
        | (go_at_call 36; refine (H.out _).mono ?_; rintro e w2 ⟨rfl, hb2⟩; have hb12 := bth hb1 hb2; clear hb1 hb2)
        | (go_at_call 45; refine (W.out _ (HG.out.later (bth hb hb12))).mono ?_; rintro e w3 ⟨rfl, hb3⟩; have hb13 := bth hb12 hb3; clear hb12 hb3)
        | ((with_reducible show wpList _ _ _ ({ dst := _, op := Op.store _ _ _, type := _, pos := _, after := _, guard := _ } :: _) _ _); refine wpList_store_hash rfl 42 _ _ rfl w.heap.size k rfl Y rfl L 42 (HBk.out.later hb13) Hl.out (by rw [Hlen.out]; exact hlt) Tryd.sizeHash ?_; intro w5 hB5 hb5))
      go_roundw
      case rel => exact ⟨k + 1, by omega, by go_num, by rw [← hset.out]; exact hB5, (bth hb hb13).trans (hb5 w.heap.size (Nat.le_refl _))⟩
      case measure => simp [intOf]; omega
    · obtain rfl : k = 512 := by omega
      have hd : decide ((512 : Int) < 512) = false := by decide
      go_wp2
      go_ret
      exact ⟨⟨w.heap.size, rfl, by simpa using hB, Nat.le_refl _⟩, hb⟩
end Go.Proofs.YtchpoggegdocpaaDoor
