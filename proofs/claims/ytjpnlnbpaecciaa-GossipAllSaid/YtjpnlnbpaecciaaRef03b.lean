import Derived.Test.YtjpnlnbpaecciaaRef03
set_option maxRecDepth 100000
namespace Go.Proofs.Ytjpnlnbpaecciaa
open Go.RowKit Go.Spec
theorem rread_no (l : List UInt8) (w : World) (hn : l.length ≤ 9223372036854775807) (h : rd 0 l = none) :
    Calls Try.prog 73 #[sv l] w fun e w' => e = .returned (.tuple #[.int .u64 0, sv [], .bool false]) ∧ Below w.heap.size w w' :=
  (rread_any l w hn).mono fun _ _ ⟨a, b⟩ => ⟨by rw [a, h]; rfl, b⟩
theorem rread_yes (l : List UInt8) (w : World) (hn : l.length ≤ 9223372036854775807) {n : Nat} {r : List UInt8} (h : rd 0 l = some (n, r)) :
    Calls Try.prog 73 #[sv l] w fun e w' => e = .returned (.tuple #[.int .u64 n, sv r, .bool true]) ∧ Below w.heap.size w w' :=
  (rread_any l w hn).mono fun _ _ ⟨a, b⟩ => ⟨by rw [a, h]; rfl, b⟩
set_option maxRecDepth 100000 in
set_option maxHeartbeats 400000 in
theorem rcut_any (l : List UInt8) (w : World) (hn : l.length ≤ 9223372036854775807) :
    Calls Try.prog 74 #[sv l] w fun e w' => e = .returned (cutV (cutL l)) ∧ Below w.heap.size w w' := by
  cases hr : rd 0 l with
  | none =>
    have Hfin := hid (show cutL l = none by rw [cutL, hr])
    go_enter Try.func74, Try.ntmps74
    go_wp2_with (go_at_call 73; refine (rread_no l _ hn hr).mono ?_; rintro e w1 ⟨rfl, hb⟩)
    go_ret3
    exact ⟨by rw [Hfin.out]; rfl, hb⟩
  | some x =>
    obtain ⟨n, r⟩ := x
    have hrl := (rd_some l 0 n r (by omega) hr).2
    have hn64 := (rd_some l 0 n r (by omega) hr).1
    have Hr := hid hr; clear hr
    by_cases hlt : r.length < n
    · have Hfin := hid (show cutL l = none by rw [cutL, Hr.out]; simp [hlt])
      have hd : decide (r.length < n) = true := by simpa using hlt
      clear hlt hn64
      go_enter Try.func74, Try.ntmps74
      go_wp2_with (go_at_call 73; refine (rread_yes l _ hn Hr.out).mono ?_; rintro e w1 ⟨rfl, hb⟩)
      go_ret3
      exact ⟨by rw [Hfin.out]; rfl, hb⟩
    · have Hfin := hid (show cutL l = some (r.take n, r.drop n) by rw [cutL, Hr.out]; simp [hlt])
      have hd : decide (r.length < n) = false := by simpa using hlt
      have hle : n ≤ r.length := by omega
      have hw : IntKind.i64.wrap (n : Int) = (n : Int) := by rw [IntKind.wrap_i64]; omega
      clear hlt hn64
      go_enter Try.func74, Try.ntmps74
      go_wp2_with (go_at_call 73; refine (rread_yes l _ hn Hr.out).mono ?_; rintro e w1 ⟨rfl, hb⟩)
      go_quiet (fail)
      go_wp2
      go_ret3
      exact ⟨by rw [Hfin.out]; simp [cutV], below_drewN hb _⟩
set_option maxHeartbeats 1000000 in
theorem runhash_no (l : List UInt8) (w : World) (hlt : l.length < 32) :
    Calls Try.prog 78 #[sv l] w fun e w' => e = .returned (.tuple #[hv zero32, sv [], .bool false]) ∧ Below w.heap.size w w' := by
  have hd : decide ((l.length : Int) < 32) = true := by simp; omega
  go_enter Try.func78, Try.ntmps78
  go_wp2_with (first
    | (refine wpList_load_row rfl 34 _ rfl (w.heap.size + 1) rfl 34 (hc zero32) (0, 0) _ (heap_alloc2_new w _ _) Try.underlying34 rfl Try.sizeHash ?_)
    | (refine wpList_store_hc rfl 34 _ _ rfl w.heap.size rfl zero32 rfl _ 34 (heap_alloc2_old w _ _) rfl Try.sizeHash ?_))
  refine bodyPost_ret (results_cell3 rfl _ w.heap.size 34 (hc zero32) (0, 0) _ rfl (setRow_get (heap_alloc2_old w _ _)) Try.underlying34 rfl Try.sizeHash) rfl ⟨rfl, ?_⟩
  exact ((((Below.refl _ _).alloc (Nat.le_refl _) _).alloc (by simp) _).setRow (Nat.le_refl _) _)
theorem set_zero (A : List UInt8) (x : UInt8) (m : Nat) : (hc (A ++ List.replicate (m + 1) 0)).setIfInBounds A.length (bcell x) = hc (A ++ [x] ++ List.replicate m 0) := by
  apply Array.toList_inj.1
  rw [Array.toList_setIfInBounds, hc_toList, hc_toList, List.replicate_succ]
  simp only [List.map_append, List.map_cons]
  rw [List.set_append_right _ _ (by simp)]
  simp
set_option maxHeartbeats 1000000 in
theorem runhash_yes (l : List UInt8) (w : World) (hlt : 32 ≤ l.length) (hn : l.length ≤ 9223372036854775807) :
    Calls Try.prog 78 #[sv l] w fun e w' => e = .returned (.tuple #[hv (l.take 32), sv (l.drop 32), .bool true]) ∧ Below w.heap.size w w' := by
  have hd : decide ((l.length : Int) < 32) = false := by simp; omega
  go_enter Try.func78, Try.ntmps78
  go_wp2_with fail
  go_loopw [6] (fun i wr => ∃ k : Nat, k ≤ 32 ∧ i = .int .i64 k ∧ wr.heap[w.heap.size]? = some (.cells (hc zero32) 34 (0, 0)) ∧ wr.heap[w.heap.size + 1]? = some (.cells (hc (l.take k ++ List.replicate (32 - k) 0)) 34 (0, 0)) ∧ Below w.heap.size w wr)
    (fun i _ => 32 - (intOf i).toNat)
  case atStart => exact ⟨0, by omega, rfl, heap_alloc2_old w _ _, heap_alloc2_new w _ _, ((Below.refl _ _).alloc (Nat.le_refl _) _).alloc (by simp) _⟩
  case round =>
    obtain ⟨k, hk, rfl, hg1, hg2, hb⟩ := hrel
    have Hg1 := hid hg1; have Hg2 := hid hg2
    clear hg1 hg2
    by_cases hk2 : k < 32
    · have hkl : k < l.length := by omega
      obtain ⟨x, hx⟩ : ∃ x, l[k] = x := ⟨_, rfl⟩
      have hcell : wr.cell? ⟨w.heap.size + 1, k, none⟩ = some (.int .u8 ((0 : UInt8).toNat : Int)) := by
        rw [cell_of_row wr _ _ _ _ _ Hg2.out, hc_get _ k (by simp; omega)]
        rw [List.getElem_append_right (by simp; omega)]
        simp; rfl
      have hfz : wr.frozen? ⟨w.heap.size + 1, k, none⟩ = false := frozen_of_row wr _ _ _ _ Hg2.out
      have Hx := hid hx
      go_wp2
      go_roundw
      case rel =>
        refine ⟨k + 1, by omega, by go_num, ?_, ?_, hb.setCell (by simp) _⟩
        · rw [heap_setCell_other _ _ _ _ (by simp)]; exact Hg1.out
        · rw [heap_setCell_same _ _ _ _ _ _ Hg2.out]
          have hs := set_zero (l.take k) x (31 - k)
          rw [show 31 - k + 1 = 32 - k by omega, List.length_take, Nat.min_eq_left (by omega)] at hs
          have htk : l.take (k + 1) = l.take k ++ [x] := by rw [List.take_succ_eq_append_getElem hkl, Hx.out]
          rw [htk, show 32 - (k + 1) = 31 - k by omega, ← hs]
          rfl
      case measure => simp [intOf]; omega
    · have hke : k = 32 := by omega
      subst hke
      have hL : (l.take 32).length = 32 := by simp; omega
      have hg3 := Hg2.out
      rw [Nat.sub_self, List.replicate_zero, List.append_nil] at hg3
      have Hg3 := hid hg3
      have HL := hid hL
      have Hsz := hid (show (Try.prog.info? 34).map (·.size) = some (l.take 32).length by rw [hL]; exact Try.sizeHash)
      have Hsz2 := hid (show (Try.prog.info? 34).map (·.size) = some (hc (l.take 32)).size by rw [hc_size, hL]; exact Try.sizeHash)
      have Hdr := hid (show sv (l.drop 32) = sv (l.drop 32) from rfl)
      clear hg3 hL
      generalize hLL : l.take 32 = L at *
      have HLL := hid hLL
      clear hLL
      go_wp2_with fail
      refine wp_region_any (by kernel_rfl) ?_
      show wpAny _ _ _ _ 6 (Array.replicate 6 false) _ _
      refine wpAny_take (i := 1) (v := sv l) rfl (by kernel_rfl) (by kernel_rfl) (by kernel_rfl) (fun _ _ _ h => h) (Or.inl ⟨by rfl, ?_⟩) ?_
      · intro w; go_simp
      refine wpAny_take (i := 2) (v := sv (l.drop 32)) rfl (by kernel_rfl) (by kernel_rfl) (by kernel_rfl) (fun _ _ _ h => h) (Or.inl ⟨by rfl, ?_⟩) ?_
      · intro w
        go_simp
        intro h
        exfalso
        omega
      refine wpAny_forced (i := 0) (by kernel_rfl) rfl ?_
      refine wpList_load_row rfl 34 _ rfl (w.heap.size + 1) rfl 34 (hc L) (0, 0) _ Hg3.out Try.underlying34 rfl Hsz2.out ?_
      refine wpList_nil ?_
      refine wpAny_forced (i := 3) (by kernel_rfl) rfl ?_
      refine wpList_store_hc rfl 34 _ _ rfl w.heap.size rfl L rfl _ 34 Hg1.out (by rw [HL.out]; rfl) Hsz.out ?_
      refine wpList_nil ?_
      have Hg4 := hid (setRow_get (cs := hc L) Hg1.out)
      refine wpAny_forced (i := 4) (by kernel_rfl) rfl ?_
      go_wp2_with fail
      refine wpAny_forced (i := 5) (by kernel_rfl) rfl ?_
      go_wp2_with fail
      refine wpAny_done (by kernel_rfl) ?_ _
      go_wp2
      refine bodyPost_ret (results_cell3 rfl _ w.heap.size 34 (hc L) (0, 0) _ rfl Hg4.out Try.underlying34 rfl Hsz2.out) rfl ⟨by rw [HLL.out]; rfl, ?_⟩
      exact hb.drew.setRow (Nat.le_refl _) _
end Go.Proofs.Ytjpnlnbpaecciaa
