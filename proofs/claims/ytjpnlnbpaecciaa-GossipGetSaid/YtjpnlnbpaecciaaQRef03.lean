/- Ref03 -/
import Derived.Test.YtjpnlnbpaecciaaQCodecLaw

set_option maxRecDepth 100000
namespace Go.Proofs.Ytjpnlnbpaecciaa
open Go.RowKit Go.Spec
theorem run_string_lit {w : World} (x : Int) (b : UInt8) (hx : Value.int .u8 x = bcell b) : (convert 79 9 (.slice (some ⟨w.heap.size, 0, none⟩) 1 1)).run Try.prog (w.alloc (.cells #[.int .u8 x] 5)) = .ok (sv [b]) (w.alloc (.cells #[.int .u8 x] 5)) := by
  rw [hx]
  exact run_string_own (P := Try.prog) (base := w.heap.size) (n := 1) (l := [b]) 79 9 5 Try.underlying79 Try.underlying5 Try.underlying9 (ownsRow_lit (w := w) (base := w.heap.size) (e := 5) (bcell b) (Nat.le_refl _))
theorem run_string_one (x : Int) (b : UInt8) (hx : Value.int .u8 x = bcell b) (W : World) (o c : Nat) (h : W.cell? ⟨o, 0, none⟩ = some (.int .u8 x)) :
    (convert 79 9 (.slice (some ⟨o, 0, none⟩) 1 c)).run Try.prog W = .ok (sv [b]) W := by
  refine run_convert_bytes_back W 79 9 5 ⟨o, 0, none⟩ c [b] Try.underlying79 Try.underlying5 Try.underlying9 ?_
  intro j hj
  have : j = 0 := by simpa using hj
  subst this
  rw [Addr.add_lit]
  simp only [Nat.add_zero, List.getElem_cons_zero]
  rw [h, hx]; rfl
set_option maxHeartbeats 1000000 in
theorem rahead_any (f : Nat) : ∀ (n : Nat) (x : Int) (w : World), x = n → 0 < n → n < 128 ^ (f + 1) → f ≤ 8 →
    Calls Try.prog 88 #[.int .u64 x] w fun e w' => e = .returned (sv (hiN n)) ∧ Below w.heap.size w w' := by
  induction f with
  | zero =>
    rintro n x w rfl h0 h1 hf
    have Hfin := hid (show hiN n = [hib n] by rw [hiN_pos n h0, show n / 128 = 0 by omega, hiN_zero]; rfl)
    have h2 : n < 128 := by omega
    have hcv := run_string_lit (w := w) ((n : Int) % 128 + 128) (hib n) (hib_cell n).symm
    clear h1
    go_enter Try.func88, Try.ntmps88
    go_wp2_with fail
    go_ret
    exact ⟨by rw [Hfin.out]; rfl, (Below.refl _ _).alloc (Nat.le_refl _) _⟩
  | succ f ih =>
    rintro n x w rfl h0 h1 hf
    by_cases h2 : n < 128
    · exact ih n _ w rfl h0 (Nat.lt_of_lt_of_le h2 (by rw [Nat.pow_succ]; exact Nat.le_mul_of_pos_left _ (Nat.pow_pos (by omega)))) (by omega)
    · have Hfin := hid (show hiN n = hiN (n / 128) ++ [hib n] from hiN_pos n h0)
      have h1' : n < 128 ^ 10 := Nat.lt_of_lt_of_le h1 (Nat.pow_le_pow_right (by omega) (by omega))
      have hlen := hiN_len (n / 128) 9 (by omega)
      have hcv := run_string_lit (w := w) ((n : Int) % 128 + 128) (hib n) (hib_cell n).symm
      have hd : decide ((n : Int) < 128) = false := by simp; omega
      have h3 : n / 128 < 128 ^ (f + 1) := by rw [Nat.pow_succ] at h1; omega
      have Hih := hid ih
      have H3 := hid h3
      have hq : IntKind.u64.wrap ((n : Int) / 128) = (n : Int) / 128 := by rw [IntKind.wrap_u64]; omega
      clear h1 h3 ih h1'
      have h128 : 128 ≤ n := by omega
      clear h2
      go_enter Try.func88, Try.ntmps88
      go_wp2_with (go_at_call 88; go_must (refine (Hih.out (n / 128) _ _ (by omega) (by omega) H3.out (by omega)).mono ?_); rintro e w1 ⟨rfl, hb⟩)
      go_ret
      exact ⟨by rw [Hfin.out]; rfl, ((Below.refl _ _).alloc (Nat.le_refl _) _).trans (hb.mono (by simp))⟩
set_option maxHeartbeats 1000000 in
theorem rnum_any (n : Nat) (w : World) (hn : n < 18446744073709551616) :
    Calls Try.prog 48 #[.int .u64 n] w fun e w' => e = .returned (sv (numL n)) ∧ Below w.heap.size w w' := by
  by_cases h : n < 128
  · have Hfin := hid (show numL n = [lob n] by rw [numL, show n / 128 = 0 by omega, hiN_zero]; rfl)
    have hcv := run_string_lit (w := w) (n : Int) (lob n) (by rw [lob_cell]; congr 1; omega)
    clear hn
    go_enter Try.func48, Try.ntmps48
    go_wp2_with fail
    go_ret
    exact ⟨by rw [Hfin.out]; rfl, (Below.refl _ _).alloc (Nat.le_refl _) _⟩
  · have Hfin := hid (show numL n = hiN (n / 128) ++ [lob n] from rfl)
    have hlen := hiN_len (n / 128) 9 (by omega)
    have H1 := hid (show n / 128 < 128 ^ (8 + 1) by omega)
    have hd : decide ((n : Int) < 128) = false := by simp; omega
    have h128 : 128 ≤ n := by omega
    have hcv := run_string_one ((n : Int) % 128) (lob n) (lob_cell n).symm
    have hq : IntKind.u64.wrap ((n : Int) / 128) = (n : Int) / 128 := by rw [IntKind.wrap_u64]; omega
    have hq4 : (n : Int).tmod 128 = (n : Int) % 128 := Int.tmod_eq_emod_of_nonneg (by omega)
    have hq2 : IntKind.u64.wrap ((n : Int) % 128) = (n : Int) % 128 := by rw [IntKind.wrap_u64]; omega
    have hq3 : IntKind.u8.wrap ((n : Int) % 128) = (n : Int) % 128 := by rw [IntKind.wrap_u8]; omega
    clear h hn
    go_enter Try.func48, Try.ntmps48
    go_wp2_with fail
    go_region_with (go_at_call 88; refine (rahead_any 8 (n / 128) _ _ (by omega) (by omega) H1.out (by omega)).mono ?_; rintro e w1 ⟨rfl, hb⟩; obtain ⟨hc, hf⟩ := bcells hb)
    all_goals go_wp2
    all_goals go_ret
    all_goals refine ⟨by rw [Hfin.out]; rfl, ?_⟩
    all_goals first
      | exact ((Below.refl _ w).drew.trans hb).alloc hb.size _
      | exact ((Below.refl _ w).drew.alloc (Nat.le_refl _) _).trans (hb.mono (by simp))
set_option maxHeartbeats 400000 in
theorem rtext_any (l : List UInt8) (w : World) (hn : l.length ≤ 1000000000) :
    Calls Try.prog 50 #[sv l] w fun e w' => e = .returned (sv (numL l.length ++ l)) ∧ Below w.heap.size w w' := by
  have hlen := numL_len l.length (by omega)
  go_enter Try.func50, Try.ntmps50
  go_wp2_with (go_at_call 48; refine (rnum_any _ _ (by omega)).mono ?_; rintro e w1 ⟨rfl, hb⟩)
  go_ret
  exact ⟨rfl, hb⟩
set_option maxHeartbeats 1000000 in
theorem rhash_any (h : List UInt8) (w : World) (hh : h.length = 32) :
    Calls Try.prog 53 #[hv h] w fun e w' => e = .returned (sv h) ∧ Below w.heap.size w w' := by
  obtain ⟨i0, hi, hz0, hz1, hz2⟩ := info_parts Try.infoU8
  have Hh := hid hh
  clear hh
  go_enter Try.func53, Try.ntmps53
  go_wp2
  go_loopw [3, 4] (fun v i wr => ∃ k : Nat, k ≤ 32 ∧ i = .int .i64 k ∧ wr.ownsRow (w.heap.size + 1) 5 1 v k ((h.take k).map bcell) ∧ wr.heap[w.heap.size]? = some (.cells (hc h) 34 (0, 0)) ∧ Below w.heap.size w wr)
    (fun _ i _ => 32 - (intOf i).toNat)
  case atStart => exact ⟨0, by omega, rfl, by simpa using World.ownsRow_nil _ _ _ _, heap_alloc_new w _, (Below.refl _ _).alloc (Nat.le_refl _) _⟩
  case round =>
    obtain ⟨k, hk, rfl, hown, hg, hb⟩ := hrel
    have Hg := hid hg; clear hg
    have hsz : w.heap.size < wr.heap.size := (Array.getElem?_eq_some_iff.1 Hg.out).1
    by_cases hlt : k < 32
    · obtain ⟨b, hbk⟩ : ∃ b, h[k]'(by rw [Hh.out]; exact hlt) = b := ⟨_, rfl⟩
      have hcell : wr.cell? ⟨w.heap.size, k, none⟩ = some (.int .u8 (b.toNat : Int)) := by
        rw [cell_of_row wr _ _ _ _ _ Hg.out, hc_get h k (by rw [Hh.out]; exact hlt), hbk]; rfl
      have Htk := hid (show h.take (k + 1) = h.take k ++ [b] by rw [List.take_succ_eq_append_getElem (by rw [Hh.out]; exact hlt), hbk])
      clear hbk
      go_wp2_with (at_builtin; go_must (refine wpList_app rfl _ _ 79 rfl (w.heap.size + 1) 5 i0 (.int .u8 0) 1 1 Try.underlying79 hi hz0 hz1 hz2 rfl (by decide) _ k ((h.take k).map bcell) rfl ?c1 ⟨wr.heap.size, 0, none⟩ 1 1 [.int .u8 (b.toNat : Int)] rfl rfl ?c3 ?c4 ?c5 ?c6 ?c7 ?_))
      case c1 => exact hown.alloc _
      case c3 =>
        intro j u hj
        exact row_alloc (w := wr) (cs := #[.int .u8 (b.toNat : Int)]) j u hj
      case c4 => intro u hu; simp at hu; subst hu; rfl
      case c5 => unfold maxLen; omega
      case c6 => omega
      case c7 => simp; omega
      intro v' w5 hown' hgrow hat
      go_wp2
      go_roundw
      case rel =>
        refine ⟨k + 1, by omega, by go_num, ?_, ?_, ?_⟩
        · rw [Htk.out, List.map_append, List.map_take]; exact hown'
        · rw [hgrow.block w.heap.size (by simp; omega) (fun h => by have := (hown.lt _ h.symm).1; omega), Below.heap_alloc _ _ _ hsz]; exact Hg.out
        · exact (hb.alloc hb.size _).grown hgrow (by have := hb.size; simp; omega) (fun q hq => by have := (hown.lt q hq).1; omega)
      case measure => simp [intOf]; omega
    · have hke : k = 32 := by omega
      subst hke
      have hcv := run_string_own (P := Try.prog) (w := wr) (l := h.take 32) 79 9 5 Try.underlying79 Try.underlying5 Try.underlying9 hown
      have Htk := hid (show h.take 32 = h by rw [List.take_of_length_le (by rw [Hh.out]; exact Nat.le_refl _)])
      rw [Htk.out] at hcv
      go_wp2
      go_ret
      exact ⟨rfl, hb⟩
set_option maxRecDepth 100000 in
set_option maxHeartbeats 1000000 in
theorem rread_any (l : List UInt8) (w : World) (hn : l.length ≤ 9223372036854775807) :
    Calls Try.prog 73 #[sv l] w fun e w' => e = .returned (rdV (rd 0 l)) ∧ Below w.heap.size w w' := by
  go_enter Try.func73, Try.ntmps73
  go_wp2
  go_loop [5] (fun i => ∃ (k : Nat), i = .int .i64 k ∧ k ≤ l.length ∧ k ≤ 10 ∧ ∀ j (hj : j < l.length), j < k → 128 ≤ l[j].toNat) (fun i => l.length - (intOf i).toNat)
  case atStart => exact ⟨0, rfl, by omega, by omega, fun j _ hj => absurd hj (by omega)⟩
  case round =>
    obtain ⟨k, rfl, hk, hk10, hbig⟩ := hrel
    have Hbig := hid hbig; clear hbig
    by_cases hlt : k < l.length
    · by_cases h10 : k < 10
      · obtain ⟨c, hc⟩ : ∃ c : UInt8, l[k] = c := ⟨_, rfl⟩
        by_cases h128 : 128 ≤ c.toNat
        · have Hc := hid hc
          have hd1 : decide ((k : Int) < 10) = true := by simp; omega
          go_wp2
          go_round
          case rel =>
            refine ⟨k + 1, by go_num, by omega, by omega, fun j hj hjk => ?_⟩
            rcases Nat.lt_or_ge j k with h | h
            · exact Hbig.out j hj h
            · obtain rfl : j = k := by omega
              rw [Hc.out]; exact h128
          case measure => simp [intOf]; omega
        · have Hc := hid hc
          have hd0 : c.toNat < 128 := by omega
          have hd1 : decide ((k : Int) < 10) = true := by simp; omega
          have hd2 : decide ((128 : Int) ≤ (c.toNat : Int)) = false := by simp; omega
          have hd3 : decide ((9 : Int) < (k : Int)) = false := by simp; omega
          go_wp2
          clear hd1 hd2 hd3
          go_loop [6, 7] (fun n i => ∃ (j : Nat), i = .int .i64 j ∧ j ≤ k + 1 ∧ n = .int .u64 ((val (l.take j) % 18446744073709551616 : Nat) : Int)) (fun _ i => k + 1 - (intOf i).toNat)
          case atStart => exact ⟨0, rfl, by omega, by simp [val]⟩
          case round =>
            obtain ⟨j, rfl, hj, rfl⟩ := hrel
            obtain ⟨m, hm⟩ : ∃ m, val (l.take j) % 18446744073709551616 = m := ⟨_, rfl⟩
            have Hm := hid hm
            rw [hm]
            clear hm
            by_cases hjk : j ≤ k
            · have hjl : j < l.length := by omega
              obtain ⟨d, hd⟩ : ∃ d, l[j] = d := ⟨_, rfl⟩
              have Hval := hid (show val (l.take (j + 1)) = val (l.take j) * 128 + d.toNat % 128 by rw [List.take_succ_eq_append_getElem hjl, val_snoc, hd])
              go_wp2
              go_round
              case rel =>
                refine ⟨j + 1, by go_num, by omega, ?_⟩
                congr 1
                rw [Hval.out]
                have := Hm.out
                simp only [IntKind.wrap_u64]
                omega
              case measure => simp [intOf]; omega
            · have hje : j = k + 1 := by omega
              subst hje
              have hm64 : m < 18446744073709551616 := by rw [← Hm.out]; exact Nat.mod_lt _ (by omega)
              have Hm64 := hid hm64; clear hm64
              have hk1 : (k : Int) + 1 ≤ (l.length : Int) := by omega
              have hw : IntKind.i64.wrap ((k : Int) + 1) = (k : Int) + 1 := by rw [IntKind.wrap_i64]; omega
              have hw2 : ((k : Int) + 1).toNat = k + 1 := by omega
              have hw3 : (0 : Int) ≤ (k : Int) + 1 := by omega
              have hW : ∀ (u : List UInt8), u = l.take (k + 1) → rd 0 (u ++ l.drop (k + 1)) = rd 0 l := fun u hu => by rw [hu, List.take_append_drop]
              by_cases he : numL m = l.take (k + 1)
              · have Hfin := hid (show rd 0 l = some (m, l.drop (k + 1)) by rw [← hW _ he]; exact rd_num m Hm64.out _)
                have hbq : (numL m == l.take (k + 1)) = true := by simpa using he
                clear he hW
                go_wp2_with fail
                refine wp_region_later (by kernel_rfl) (by kernel_rfl) ?_
                repeat (go_big_quiet_step ((go_at_call 48; exact calls_later (rnum_any _ _ Hm64.out))))
                refine wpQuiet_nil ?_
                rintro _ ⟨x, rfl⟩
                have hb := lat_below x
                generalize lat x = w2 at *
                go_wp2_with fail
                go_quiet (fail)
                go_wp2
                go_ret3
                exact ⟨by rw [Hfin.out]; simp [rdV], below_drewN hb _⟩
              · have Hfin := hid (show rd 0 l = none by
                  cases h : rd 0 l with
                  | none => rfl
                  | some x =>
                    exfalso
                    have h1 := rd_stop l x.1 x.2 k h Hbig.out hlt (by rw [Hc.out]; exact hd0)
                    have h2 := val_num x.1
                    have h3 := (rd_iff l x.1 x.2).1 h
                    rw [h1] at h2
                    have h4 := Hm.out
                    rw [h2, Nat.mod_eq_of_lt h3.1] at h4
                    exact he (h4 ▸ h1))
                have hbq : (numL m == l.take (k + 1)) = false := by simpa using he
                clear he hW
                go_wp2_with fail
                refine wp_region_later (by kernel_rfl) (by kernel_rfl) ?_
                repeat (go_big_quiet_step ((go_at_call 48; exact calls_later (rnum_any _ _ Hm64.out))))
                refine wpQuiet_nil ?_
                rintro _ ⟨x, rfl⟩
                have hb := lat_below x
                generalize lat x = w2 at *
                go_wp2
                go_ret3
                exact ⟨by rw [Hfin.out]; rfl, hb⟩
      · have hke : k = 10 := by omega
        subst hke
        have Hfin := hid (show rd 0 l = none by
          cases h : rd 0 l with
          | none => rfl
          | some x =>
            have := rd_long l x.1 x.2 10 h Hbig.out hk
            omega)
        go_wp2
        go_ret3
        exact ⟨by rw [Hfin.out]; rfl, Below.refl _ _⟩
    · have hke : k = l.length := by omega
      subst hke
      have Hfin := hid (show rd 0 l = none by
          cases h : rd 0 l with
          | none => rfl
          | some x =>
            have := rd_long l x.1 x.2 l.length h Hbig.out hk
            omega)
      go_wp2
      go_ret3
      exact ⟨by rw [Hfin.out]; rfl, Below.refl _ _⟩
end Go.Proofs.Ytjpnlnbpaecciaa
namespace Go.Proofs.Ytjpnlnbpaecciaa
open Go.RowKit Go.Spec
theorem rread_no (l : List UInt8) (w : World) (hn : l.length ≤ 9223372036854775807) (h : rd 0 l = none) :
    Calls Try.prog 73 #[sv l] w fun e w' => e = .returned (.tuple #[.int .u64 0, sv [], .bool false]) ∧ Below w.heap.size w w' :=
  (rread_any l w hn).mono fun _ _ ⟨a, b⟩ => ⟨by rw [a, h]; rfl, b⟩
theorem rread_yes (l : List UInt8) (w : World) (hn : l.length ≤ 9223372036854775807) {n : Nat} {r : List UInt8} (h : rd 0 l = some (n, r)) :
    Calls Try.prog 73 #[sv l] w fun e w' => e = .returned (.tuple #[.int .u64 n, sv r, .bool true]) ∧ Below w.heap.size w w' :=
  (rread_any l w hn).mono fun _ _ ⟨a, b⟩ => ⟨by rw [a, h]; rfl, b⟩
set_option maxRecDepth 100000 in
set_option maxHeartbeats 400000 in
theorem rcut_any (l : List UInt8) (w : World) (hn : l.length ≤ 9223372036854775807) :
    Calls Try.prog 74 #[sv l] w fun e w' => e = .returned (cutV (cutL l)) ∧ Below w.heap.size w w' := by
  cases hr : rd 0 l with
  | none =>
    have Hfin := hid (show cutL l = none by rw [cutL, hr])
    go_enter Try.func74, Try.ntmps74
    go_wp2_with (go_at_call 73; refine (rread_no l _ hn hr).mono ?_; rintro e w1 ⟨rfl, hb⟩)
    go_ret3
    exact ⟨by rw [Hfin.out]; rfl, hb⟩
  | some x =>
    obtain ⟨n, r⟩ := x
    have hrl := (rd_some l 0 n r (by omega) hr).2
    have hn64 := (rd_some l 0 n r (by omega) hr).1
    have Hr := hid hr; clear hr
    by_cases hlt : r.length < n
    · have Hfin := hid (show cutL l = none by rw [cutL, Hr.out]; simp [hlt])
      have hd : decide (r.length < n) = true := by simpa using hlt
      clear hlt hn64
      go_enter Try.func74, Try.ntmps74
      go_wp2_with (go_at_call 73; refine (rread_yes l _ hn Hr.out).mono ?_; rintro e w1 ⟨rfl, hb⟩)
      go_ret3
      exact ⟨by rw [Hfin.out]; rfl, hb⟩
    · have Hfin := hid (show cutL l = some (r.take n, r.drop n) by rw [cutL, Hr.out]; simp [hlt])
      have hd : decide (r.length < n) = false := by simpa using hlt
      have hle : n ≤ r.length := by omega
      have hw : IntKind.i64.wrap (n : Int) = (n : Int) := by rw [IntKind.wrap_i64]; omega
      clear hlt hn64
      go_enter Try.func74, Try.ntmps74
      go_wp2_with (go_at_call 73; refine (rread_yes l _ hn Hr.out).mono ?_; rintro e w1 ⟨rfl, hb⟩)
      go_quiet (fail)
      go_wp2
      go_ret3
      exact ⟨by rw [Hfin.out]; simp [cutV], below_drewN hb _⟩
set_option maxHeartbeats 1000000 in
theorem runhash_no (l : List UInt8) (w : World) (hlt : l.length < 32) :
    Calls Try.prog 78 #[sv l] w fun e w' => e = .returned (.tuple #[hv zero32, sv [], .bool false]) ∧ Below w.heap.size w w' := by
  have hd : decide ((l.length : Int) < 32) = true := by simp; omega
  go_enter Try.func78, Try.ntmps78
  go_wp2_with (first
    | (refine wpList_load_row rfl 34 _ rfl (w.heap.size + 1) rfl 34 (hc zero32) (0, 0) _ (heap_alloc2_new w _ _) Try.underlying34 rfl Try.sizeHash ?_)
    | (refine wpList_store_hc rfl 34 _ _ rfl w.heap.size rfl zero32 rfl _ 34 (heap_alloc2_old w _ _) rfl Try.sizeHash ?_))
  refine bodyPost_ret (results_cell3 rfl _ w.heap.size 34 (hc zero32) (0, 0) _ rfl (setRow_get (heap_alloc2_old w _ _)) Try.underlying34 rfl Try.sizeHash) rfl ⟨rfl, ?_⟩
  exact ((((Below.refl _ _).alloc (Nat.le_refl _) _).alloc (by simp) _).setRow (Nat.le_refl _) _)
theorem set_zero (A : List UInt8) (x : UInt8) (m : Nat) : (hc (A ++ List.replicate (m + 1) 0)).setIfInBounds A.length (bcell x) = hc (A ++ [x] ++ List.replicate m 0) := by
  apply Array.toList_inj.1
  rw [Array.toList_setIfInBounds, hc_toList, hc_toList, List.replicate_succ]
  simp only [List.map_append, List.map_cons]
  rw [List.set_append_right _ _ (by simp)]
  simp
set_option maxHeartbeats 1000000 in
theorem runhash_yes (l : List UInt8) (w : World) (hlt : 32 ≤ l.length) (hn : l.length ≤ 9223372036854775807) :
    Calls Try.prog 78 #[sv l] w fun e w' => e = .returned (.tuple #[hv (l.take 32), sv (l.drop 32), .bool true]) ∧ Below w.heap.size w w' := by
  have hd : decide ((l.length : Int) < 32) = false := by simp; omega
  go_enter Try.func78, Try.ntmps78
  go_wp2_with fail
  go_loopw [6] (fun i wr => ∃ k : Nat, k ≤ 32 ∧ i = .int .i64 k ∧ wr.heap[w.heap.size]? = some (.cells (hc zero32) 34 (0, 0)) ∧ wr.heap[w.heap.size + 1]? = some (.cells (hc (l.take k ++ List.replicate (32 - k) 0)) 34 (0, 0)) ∧ Below w.heap.size w wr)
    (fun i _ => 32 - (intOf i).toNat)
  case atStart => exact ⟨0, by omega, rfl, heap_alloc2_old w _ _, heap_alloc2_new w _ _, ((Below.refl _ _).alloc (Nat.le_refl _) _).alloc (by simp) _⟩
  case round =>
    obtain ⟨k, hk, rfl, hg1, hg2, hb⟩ := hrel
    have Hg1 := hid hg1; have Hg2 := hid hg2
    clear hg1 hg2
    by_cases hk2 : k < 32
    · have hkl : k < l.length := by omega
      obtain ⟨x, hx⟩ : ∃ x, l[k] = x := ⟨_, rfl⟩
      have hcell : wr.cell? ⟨w.heap.size + 1, k, none⟩ = some (.int .u8 ((0 : UInt8).toNat : Int)) := by
        rw [cell_of_row wr _ _ _ _ _ Hg2.out, hc_get _ k (by simp; omega)]
        rw [List.getElem_append_right (by simp; omega)]
        simp; rfl
      have hfz : wr.frozen? ⟨w.heap.size + 1, k, none⟩ = false := frozen_of_row wr _ _ _ _ Hg2.out
      have Hx := hid hx
      go_wp2
      go_roundw
      case rel =>
        refine ⟨k + 1, by omega, by go_num, ?_, ?_, hb.setCell (by simp) _⟩
        · rw [heap_setCell_other _ _ _ _ (by simp)]; exact Hg1.out
        · rw [heap_setCell_same _ _ _ _ _ _ Hg2.out]
          have hs := set_zero (l.take k) x (31 - k)
          rw [show 31 - k + 1 = 32 - k by omega, List.length_take, Nat.min_eq_left (by omega)] at hs
          have htk : l.take (k + 1) = l.take k ++ [x] := by rw [List.take_succ_eq_append_getElem hkl, Hx.out]
          rw [htk, show 32 - (k + 1) = 31 - k by omega, ← hs]
          rfl
      case measure => simp [intOf]; omega
    · have hke : k = 32 := by omega
      subst hke
      have hL : (l.take 32).length = 32 := by simp; omega
      have hg3 := Hg2.out
      rw [Nat.sub_self, List.replicate_zero, List.append_nil] at hg3
      have Hg3 := hid hg3
      have HL := hid hL
      have Hsz := hid (show (Try.prog.info? 34).map (·.size) = some (l.take 32).length by rw [hL]; exact Try.sizeHash)
      have Hsz2 := hid (show (Try.prog.info? 34).map (·.size) = some (hc (l.take 32)).size by rw [hc_size, hL]; exact Try.sizeHash)
      have Hdr := hid (show sv (l.drop 32) = sv (l.drop 32) from rfl)
      clear hg3 hL
      generalize hLL : l.take 32 = L at *
      have HLL := hid hLL
      clear hLL
      go_wp2_with fail
      refine wp_region_any (by kernel_rfl) ?_
      show wpAny _ _ _ _ 6 (Array.replicate 6 false) _ _
      refine wpAny_take (i := 1) (v := sv l) rfl (by kernel_rfl) (by kernel_rfl) (by kernel_rfl) (fun _ _ _ h => h) (Or.inl ⟨by rfl, ?_⟩) ?_
      · intro w; go_simp
      refine wpAny_take (i := 2) (v := sv (l.drop 32)) rfl (by kernel_rfl) (by kernel_rfl) (by kernel_rfl) (fun _ _ _ h => h) (Or.inl ⟨by rfl, ?_⟩) ?_
      · intro w
        go_simp
        intro h
        exfalso
        omega
      refine wpAny_forced (i := 0) (by kernel_rfl) rfl ?_
      refine wpList_load_row rfl 34 _ rfl (w.heap.size + 1) rfl 34 (hc L) (0, 0) _ Hg3.out Try.underlying34 rfl Hsz2.out ?_
      refine wpList_nil ?_
      refine wpAny_forced (i := 3) (by kernel_rfl) rfl ?_
      refine wpList_store_hc rfl 34 _ _ rfl w.heap.size rfl L rfl _ 34 Hg1.out (by rw [HL.out]; rfl) Hsz.out ?_
      refine wpList_nil ?_
      have Hg4 := hid (setRow_get (cs := hc L) Hg1.out)
      refine wpAny_forced (i := 4) (by kernel_rfl) rfl ?_
      go_wp2_with fail
      refine wpAny_forced (i := 5) (by kernel_rfl) rfl ?_
      go_wp2_with fail
      refine wpAny_done (by kernel_rfl) ?_ _
      go_wp2
      refine bodyPost_ret (results_cell3 rfl _ w.heap.size 34 (hc L) (0, 0) _ rfl Hg4.out Try.underlying34 rfl Hsz2.out) rfl ⟨by rw [HLL.out]; rfl, ?_⟩
      exact hb.drew.setRow (Nat.le_refl _) _
end Go.Proofs.Ytjpnlnbpaecciaa
namespace Go.Proofs.Ytjpnlnbpaecciaa
open Go.RowKit Go.Spec
set_option maxHeartbeats 1000000 in
theorem rhashes_any (v : Value) (hs : List (List UInt8)) (w : World) (hv : SlAt w 32 v (hcs hs)) (hn : hs.length ≤ 9223372036854775807) :
    Calls Try.prog 65 #[v] w fun e w' => e = .returned (sv (hashesL hs)) ∧ Below w.heap.size w w' := by
  obtain ⟨a, cap, rfl, hcap⟩ := hv.form
  rw [hcs_length] at *
  by_cases h64 : 64 < hs.length
  · have Hfin := hid (show hashesL hs = [] by rw [hashesL, if_pos h64])
    go_enter Try.func65, Try.ntmps65
    go_wp2
    go_ret
    exact ⟨by rw [Hfin.out]; rfl, Below.refl _ _⟩
  · have Hfin := hid (show hashesL hs = numL hs.length ++ hs.flatten by rw [hashesL, if_neg h64])
    have hnl := numL_len hs.length (by omega)
    have h64' : hs.length ≤ 64 := by omega
    have hd : decide (64 < (hs.length : Int)) = false := by simp; omega
    clear h64 hn
    have Hv := hid hv; clear hv
    go_enter Try.func65, Try.ntmps65
    go_wp2_with (go_at_call 48; refine (rnum_any _ _ (by omega)).mono ?_; rintro e w1 ⟨rfl, hb1⟩)
    go_loopw [3, 4] (fun s i wr => ∃ (k : Nat), i = .int .i64 k ∧ k ≤ hs.length ∧ s = sv (numL hs.length ++ (hs.take k).flatten) ∧ Below w.heap.size w wr)
      (fun _ i _ => hs.length - (intOf i).toNat)
    case atStart => exact ⟨0, rfl, by omega, by simp, hb1⟩
    case round =>
      obtain ⟨k, rfl, hk, rfl, hb⟩ := hrel
      have hfl := flatten_len (hs := hs.take k) (fun x hx => Hv.out.len32 x (List.mem_of_mem_take hx))
      rw [List.length_take, Nat.min_eq_left hk] at hfl
      have hfl2 : ((hs.take k).flatten).length ≤ 2048 := by omega
      have htk := fun (hlt : k < hs.length) => (show (hs.take (k + 1)).flatten = (hs.take k).flatten ++ hs[k] by rw [List.take_succ_eq_append_getElem hlt, List.flatten_append, List.flatten_singleton])
      generalize hF : (hs.take k).flatten = F at *
      have HF := hid hF
      clear hfl hF
      by_cases hlt : k < hs.length
      · have htk1 := hid (htk hlt)
        clear htk
        obtain ⟨b, o, rfl, hbl, hcl, hcell⟩ := (Hv.out.below hb (Nat.le_refl _)).at (i := k) (cs := hs[k].map bcell) (by simp [hcs, hlt])
        generalize hs[k] = h at *
        have hcl' : h.length = 32 := by simpa using hcl
        have Hsz := hid (show (Try.prog.info? 34).map (·.size) = some h.length by rw [hcl']; exact Try.sizeHash)
        have Hcl := hid hcl'
        have hcl2 : h.length ≤ 32 := by omega
        have Hcell := hid hcell
        clear hcell hcl hcl'
        go_wp2_with (first
          | (refine wpList_load_hc rfl 34 _ rfl ⟨b, o + k * 32, none⟩ rfl h _ Hcell.out Try.underlying34 rfl Hsz.out ?_)
          | (go_at_call 53; refine (rhash_any h _ Hcl.out).mono ?_; rintro e w3 ⟨rfl, hb3⟩))
        go_roundw
        case rel =>
          refine ⟨k + 1, by go_num, by omega, ?_, hb.trans (hb3.mono hb.size)⟩
          rw [htk1.out, ← List.append_assoc]
        case measure => simp [intOf]; omega
      · have hke : k = hs.length := by omega
        subst hke
        have HF2 := hid (show hs.flatten = F by rw [← HF.out, List.take_length])
        clear htk
        go_wp2
        go_ret
        exact ⟨by rw [Hfin.out, HF2.out]; rfl, hb⟩
set_option maxHeartbeats 1000000 in
theorem runhashes_any (l : List UInt8) (w : World) (hn : l.length ≤ 9223372036854775807) :
    Calls Try.prog 94 #[sv l] w fun e w' => UH l e w w' := by
  obtain ⟨i0, hi, hz0, hz1, hz2⟩ := info_parts Try.infoHash
  cases hr : rd 0 l with
  | none =>
    have Hfin := hid (show unhashesL l = none by rw [unhashesL, hr])
    go_enter Try.func94, Try.ntmps94
    go_wp2_with (go_at_call 73; refine (rread_no l _ hn hr).mono ?_; rintro e w1 ⟨rfl, hb⟩)
    go_ret3
    exact UH.mk_no Hfin.out rfl hb
  | some x =>
    obtain ⟨n, r⟩ := x
    obtain ⟨hn64, hrl⟩ := rd_some l 0 n r (by omega) hr
    have Hn64 := hid hn64; clear hn64
    by_cases h64 : 64 < n
    · have Hfin := hid (show unhashesL l = none by rw [unhashesL, hr]; simp [h64])
      have Hr := hid hr; clear hr
      go_enter Try.func94, Try.ntmps94
      go_wp2_with (go_at_call 73; refine (rread_yes l _ hn Hr.out).mono ?_; rintro e w1 ⟨rfl, hb⟩)
      go_ret3
      exact UH.mk_no Hfin.out rfl hb
    · have h64' : n ≤ 64 := by omega
      have hd64 : decide ((64 : Int) < (n : Int)) = false := by simp; omega
      have hq : IntKind.u64.wrap ((32 : Int) * (n : Int)) = (32 : Int) * (n : Int) := by rw [IntKind.wrap_u64]; omega
      have hq2 : IntKind.i64.wrap (n : Int) = (n : Int) := by rw [IntKind.wrap_i64]; omega
      clear h64
      have Hr := hid hr; clear hr
      by_cases hshort : r.length < n * 32
      · have Hfin := hid (show unhashesL l = none by rw [unhashesL, Hr.out]; simp; omega)
        have hd : decide ((r.length : Int) < (32 : Int) * (n : Int)) = true := by simp; omega
        go_enter Try.func94, Try.ntmps94
        go_wp2_with (go_at_call 73; refine (rread_yes l _ hn Hr.out).mono ?_; rintro e w1 ⟨rfl, hb⟩)
        go_ret3
        exact UH.mk_no Hfin.out rfl hb
      · have Hfin := hid (show unhashesL l = some (chunks r n, r.drop (n * 32)) by rw [unhashesL, Hr.out]; simp; omega)
        have hd : decide ((r.length : Int) < (32 : Int) * (n : Int)) = false := by simp; omega
        have hlong : n * 32 ≤ r.length := by omega
        clear hshort
        go_enter Try.func94, Try.ntmps94
        go_wp2_with (go_at_call 73; refine (rread_yes l _ hn Hr.out).mono ?_; rintro e w1 ⟨rfl, hb⟩)
        go_loopw [6, 8, 9] (fun s v i wr => ∃ (k : Nat), k ≤ n ∧ i = .int .i64 k ∧ s = sv (r.drop (k * 32)) ∧ wr.ownsRow w.heap.size 34 32 v k (hflat (chunks r k)) ∧ Below w.heap.size w wr)
          (fun _ _ i _ => n - (intOf i).toNat)
        case atStart => exact ⟨0, by omega, rfl, by simp, World.ownsRow_nil _ _ _ _, hb⟩
        case round =>
          obtain ⟨k, hk, rfl, rfl, hown, hb2⟩ := hrel
          by_cases hlt : k < n
          · have Hs := hid (show 32 ≤ (r.drop (k * 32)).length by simp; omega)
            have Hs2 := hid (show (r.drop (k * 32)).length ≤ 9223372036854775807 by simp; omega)
            have Hch := hid (show chunks r (k + 1) = chunks r k ++ [(r.drop (k * 32)).take 32] from rfl)
            have Hdr := hid (show (r.drop (k * 32)).drop 32 = r.drop ((k + 1) * 32) by rw [List.drop_drop]; congr 1; omega)
            have hL : ((r.drop (k * 32)).take 32).length = 32 := by simp; omega
            generalize hLL : (r.drop (k * 32)).take 32 = L at *
            have HLL := hid hLL
            have HL := hid hL
            have Hsz := hid (show (Try.prog.info? 34).map (·.size) = some L.length by rw [hL]; exact Try.sizeHash)
            clear hL hLL
            go_wp2_with (first
              | (go_at_call 78; refine (runhash_yes _ _ Hs.out Hs2.out).mono ?_; rw [HLL.out, Hdr.out]; rintro e w3 ⟨rfl, hb3⟩)
              | (refine wpList_store_new rfl 34 _ _ rfl rfl L rfl _ 34 (by rw [HL.out]; rfl) Hsz.out ?_)
              | (refine wpList_load_new rfl 34 _ rfl rfl L 34 _ Try.underlying34 rfl Hsz.out ?_)
              | (refine wpList_buildSlice_one rfl 37 34 _ rfl 32 (hv zero32) (hv L) (hc L) rfl Try.underlying37 Try.infoHash2 rfl (by rw [hc_size, HL.out]) (by decide) (by decide) ?_)
              | (at_builtin; go_must (refine wpList_app rfl _ _ 37 rfl w.heap.size 34 i0 (hv zero32) 32 32 Try.underlying37 hi hz0 hz1 hz2 rfl (by decide) _ k (hflat (chunks r k)) rfl ?c1 ⟨(w3.alloc (.cells (hc L) 34)).heap.size, 0, none⟩ 1 1 (L.map bcell) rfl ?c2 ?c3 ?c4 ?c5 ?c6 ?c7 ?_)))
            case c1 => exact ((ownsRow_fr hown (Fr.of_below hb3 (fun _ => False)) (fun _ _ h => h)).alloc _).alloc _
            case c2 => simp [HL.out]
            case c3 =>
              intro j u hj
              exact row_alloc (w := w3.alloc (.cells (hc L) 34)) (cs := hc L) (t := 34) (fr := (0, 0)) j u (by rw [hc_toList]; exact hj)
            case c4 => exact bcell_one L
            case c5 => unfold maxLen; omega
            case c6 => omega
            case c7 => have := hb2.size; have := hb3.size; simp; omega
            intro v' w5 hown' hgrow hat
            go_wp2
            go_roundw
            case rel =>
              refine ⟨k + 1, by omega, by go_num, by rfl, ?_, ?_⟩
              · rw [Hch.out, hflat_snoc]; exact hown'
              · have hb4 : Below w.heap.size w w3 := hb2.trans (hb3.mono hb2.size)
                have hs4 := hb4.size
                refine (((hb4.alloc hs4 _).alloc (by simp; omega) _).grown hgrow (by simp; omega) ?_)
                intro q hq
                exact (hown.lt q hq).1
            case measure => simp [intOf]; omega
          · have hke : k = n := by omega
            subst hke
            go_wp2
            go_ret3
            exact UH.mk_yes Hfin.out _ rfl (by rw [chunks_length]; exact hown) hb2
end Go.Proofs.Ytjpnlnbpaecciaa
namespace Go.Spec
open Go.RowKit
theorem chunks_flat : ∀ (hs : List (List UInt8)) (s : List UInt8), (∀ x ∈ hs, x.length = 32) → ∀ n, n ≤ hs.length → Go.Proofs.Ytjpnlnbpaecciaa.chunks (hs.flatten ++ s) n = hs.take n
  | hs, s, h, 0, _ => rfl
  | hs, s, h, n + 1, hn => by
    have htk : hs.take (n + 1) = hs.take n ++ [hs[n]] := List.take_succ_eq_append_getElem (by omega)
    rw [Go.Proofs.Ytjpnlnbpaecciaa.chunks, chunks_flat hs s h n (by omega), htk]
    congr 2
    have hsplit : hs = hs.take n ++ (hs[n] :: hs.drop (n + 1)) := by rw [← List.drop_eq_getElem_cons (by omega)]; simp
    have hfl : hs.flatten = (hs.take n).flatten ++ (hs[n] ++ (hs.drop (n + 1)).flatten) := by conv => lhs; rw [hsplit]; rw [List.flatten_append, List.flatten_cons]
    have hlen : (hs.take n).flatten.length = n * 32 := by rw [flatten_len (fun x hx => h x (List.mem_of_mem_take hx)), List.length_take]; omega
    have h32 : (hs[n]).length = 32 := h _ (List.getElem_mem (by omega))
    rw [hfl]
    simp only [List.append_assoc]
    rw [List.drop_append_of_le_length (by omega), List.drop_eq_nil_of_le (by omega), List.nil_append, List.take_append_of_le_length (by omega), List.take_of_length_le (by omega)]
theorem rd_allbig : ∀ (l : List UInt8) (m : Nat), (∀ c ∈ l, 128 ≤ c.toNat) → rd m l = none
  | [], _, _ => rfl
  | c :: l, m, h => by
    have hc := h c List.mem_cons_self
    rw [rd]
    split
    · rfl
    · rw [if_neg (by omega)]
      exact rd_allbig l _ (fun x hx => h x (List.mem_cons_of_mem _ hx))
theorem rd_cut (n : Nat) (hn : n < 18446744073709551616) (r : List UInt8) (k : Nat) : (k < (numL n).length ∧ rd 0 ((numL n ++ r).take k) = none) ∨ (∃ j, k = (numL n).length + j ∧ rd 0 ((numL n ++ r).take k) = some (n, r.take j)) := by
  have hlen : (numL n).length = (hiN (n / 128)).length + 1 := by simp [numL]
  rcases Nat.lt_or_ge k (numL n).length with h | h
  · left
    refine ⟨h, rd_allbig _ _ fun c hc => ?_⟩
    rw [List.take_append_of_le_length (by omega), numL, List.take_append_of_le_length (by omega)] at hc
    exact hiN_big _ (n / 128) (Nat.le_refl _) c (List.mem_of_mem_take hc)
  · right
    refine ⟨k - (numL n).length, by omega, ?_⟩
    rw [List.take_append, List.take_of_length_le (by omega)]
    exact rd_num n hn _
end Go.Spec
namespace Go.Proofs.Ytjpnlnbpaecciaa
open Go.RowKit Go.Spec
theorem SlAt.nil (w : World) : SlAt w 32 (.slice none 0 0) (hcs []) := ⟨none, 0, rfl, Nat.le_refl _, fun _ h => by simp [hcs] at h, fun i cs h => by simp [hcs] at h⟩
def rdN (l : List UInt8) : Nat := match rd 0 l with | some (n, _) => n | none => 0
def rdR (l : List UInt8) : List UInt8 := match rd 0 l with | some (_, r) => r | none => []
def rdB (l : List UInt8) : Bool := (rd 0 l).isSome
theorem rdV_gen (l : List UInt8) : rdV (rd 0 l) = .tuple #[.int .u64 (rdN l), sv (rdR l), .bool (rdB l)] := by
  unfold rdN rdR rdB
  cases rd 0 l <;> rfl
theorem read_gen (l : List UInt8) (w : World) (hn : l.length ≤ 9223372036854775807) :
    Calls Try.prog 76 #[sv l] w fun e w' => e = .returned (.tuple #[.int .u64 (rdN l), sv (rdR l), .bool (rdB l)]) ∧ Below w.heap.size w w' :=
  (read_any l w hn).mono fun _ _ ⟨a, b⟩ => ⟨by rw [a, rdV_gen], b⟩
def cuT (l : List UInt8) : List UInt8 := match cutL l with | some (t, _) => t | none => []
def cuR (l : List UInt8) : List UInt8 := match cutL l with | some (_, r) => r | none => []
def cuB (l : List UInt8) : Bool := (cutL l).isSome
theorem cutV_gen (l : List UInt8) : cutV (cutL l) = .tuple #[sv (cuT l), sv (cuR l), .bool (cuB l)] := by
  unfold cuT cuR cuB
  cases cutL l <;> rfl
theorem cut_gen (l : List UInt8) (w : World) (hn : l.length ≤ 9223372036854775807) :
    Calls Try.prog 71 #[sv l] w fun e w' => e = .returned (.tuple #[sv (cuT l), sv (cuR l), .bool (cuB l)]) ∧ Below w.heap.size w w' :=
  (cut_any l w hn).mono fun _ _ ⟨a, b⟩ => ⟨by rw [a, cutV_gen], b⟩
def unT (l : List UInt8) : List UInt8 := if l.length < 32 then zero32 else l.take 32
def unR (l : List UInt8) : List UInt8 := if l.length < 32 then [] else l.drop 32
def unB (l : List UInt8) : Bool := decide (32 ≤ l.length)
theorem unT_len (l : List UInt8) : (unT l).length = 32 := by
  unfold unT
  split
  · rfl
  · simp; omega
theorem unhash_gen (l : List UInt8) (w : World) (hn : l.length ≤ 9223372036854775807) :
    Calls Try.prog 77 #[sv l] w fun e w' => e = .returned (.tuple #[hv (unT l), sv (unR l), .bool (unB l)]) ∧ Below w.heap.size w w' := by
  unfold unT unR unB
  by_cases h : l.length < 32
  · rw [if_pos h, if_pos h, show decide (32 ≤ l.length) = false by simp; omega]
    exact unhash_no l w h
  · rw [if_neg h, if_neg h, show decide (32 ≤ l.length) = true by simp; omega]
    exact unhash_yes l w (by omega) hn
def usX (l : List UInt8) : List (List UInt8) := match unhashesL l with | some (x, _) => x | none => []
def usR (l : List UInt8) : List UInt8 := match unhashesL l with | some (_, r) => r | none => []
def usB (l : List UInt8) : Bool := (unhashesL l).isSome
theorem us_32 (l : List UInt8) : ∀ x ∈ usX l, x.length = 32 := by
  unfold usX
  cases h : unhashesL l with
  | none => intro x hx; simp at hx
  | some y =>
    unfold unhashesL at h
    split at h
    · cases h
    · rename_i n r hr
      split at h
      · cases h
      · injection h with h
        subst h
        exact chunks_32 r n (by omega)
theorem us_le (l : List UInt8) : (usX l).length ≤ 64 := by
  unfold usX
  cases h : unhashesL l with
  | none => simp
  | some y =>
    unfold unhashesL at h
    split at h
    · cases h
    · split at h
      · cases h
      · injection h with h
        subst h
        simp only [chunks_length]; omega
theorem uh_gen {l : List UInt8} {e : Ending} {w w' : World} (h : UH l e w w') : ∃ v, e = .returned (.tuple #[v, sv (usR l), .bool (usB l)]) ∧ SlAt w' 32 v (hcs (usX l)) ∧ w'.ownsRow w.heap.size 34 32 v (usX l).length (hflat (usX l)) := by
  have h32 := us_32 l
  unfold usR usB usX at *
  cases hu : unhashesL l with
  | none =>
    refine ⟨.slice none 0 0, h.no hu, SlAt.nil _, World.ownsRow_nil _ _ _ _⟩
  | some y =>
    obtain ⟨hs, r⟩ := y
    rw [hu] at h32
    obtain ⟨v, hv, hown⟩ := h.yes hs r hu
    exact ⟨v, hv, SlAt.of_owns (size := 32) hown h32, hown⟩
/-- what Unhashes answers, whatever it is given -/
structure UG (l : List UInt8) (v : Value) (w w' : World) : Prop where
  at_ : SlAt w' 32 v (hcs (usX l))
  below : Below w.heap.size w w'
theorem unhashes_gen (l : List UInt8) (w : World) (hn : l.length ≤ 9223372036854775807) :
    Calls Try.prog 92 #[sv l] w fun e w' => ∃ a cap, e = .returned (.tuple #[.slice a (usX l).length cap, sv (usR l), .bool (usB l)]) ∧ UG l (.slice a (usX l).length cap) w w' :=
  (unhashes_any l w hn).mono fun _ _ h => by
    obtain ⟨v, hv, hat, _⟩ := uh_gen h
    obtain ⟨a, cap, rfl, _⟩ := hat.formH
    exact ⟨a, cap, hv, hat, h.below⟩
theorem rread_gen (l : List UInt8) (w : World) (hn : l.length ≤ 9223372036854775807) :
    Calls Try.prog 73 #[sv l] w fun e w' => e = .returned (.tuple #[.int .u64 (rdN l), sv (rdR l), .bool (rdB l)]) ∧ Below w.heap.size w w' :=
  (rread_any l w hn).mono fun _ _ ⟨a, b⟩ => ⟨by rw [a, rdV_gen], b⟩
theorem rcut_gen (l : List UInt8) (w : World) (hn : l.length ≤ 9223372036854775807) :
    Calls Try.prog 74 #[sv l] w fun e w' => e = .returned (.tuple #[sv (cuT l), sv (cuR l), .bool (cuB l)]) ∧ Below w.heap.size w w' :=
  (rcut_any l w hn).mono fun _ _ ⟨a, b⟩ => ⟨by rw [a, cutV_gen], b⟩
theorem runhash_gen (l : List UInt8) (w : World) (hn : l.length ≤ 9223372036854775807) :
    Calls Try.prog 78 #[sv l] w fun e w' => e = .returned (.tuple #[hv (unT l), sv (unR l), .bool (unB l)]) ∧ Below w.heap.size w w' := by
  unfold unT unR unB
  by_cases h : l.length < 32
  · rw [if_pos h, if_pos h, show decide (32 ≤ l.length) = false by simp; omega]
    exact runhash_no l w h
  · rw [if_neg h, if_neg h, show decide (32 ≤ l.length) = true by simp; omega]
    exact runhash_yes l w (by omega) hn
theorem runhashes_gen (l : List UInt8) (w : World) (hn : l.length ≤ 9223372036854775807) :
    Calls Try.prog 94 #[sv l] w fun e w' => ∃ a cap, e = .returned (.tuple #[.slice a (usX l).length cap, sv (usR l), .bool (usB l)]) ∧ UG l (.slice a (usX l).length cap) w w' :=
  (runhashes_any l w hn).mono fun _ _ h => by
    obtain ⟨v, hv, hat, _⟩ := uh_gen h
    obtain ⟨a, cap, rfl, _⟩ := hat.formH
    exact ⟨a, cap, hv, hat, h.below⟩
theorem cutL_text (s r : List UInt8) (h : s.length < 18446744073709551616) : cutL (numL s.length ++ s ++ r) = some (s, r) := by
  rw [cutL, List.append_assoc, rd_num _ h]
  simp
theorem unhashesL_hashes (hs : List (List UInt8)) (s : List UInt8) (h : ∀ x ∈ hs, x.length = 32) (hl : hs.length ≤ 64) : unhashesL (hashesL hs ++ s) = some (hs, s) := by
  have hfl := flatten_len h
  rw [unhashesL, hashesL, if_neg (by omega), List.append_assoc, rd_num _ (by omega)]
  simp only
  rw [if_neg (by rw [List.length_append, hfl]; omega), chunks_flat hs s h _ (Nat.le_refl _), List.take_length]
  congr 2
  rw [List.drop_append_of_le_length (by omega), List.drop_eq_nil_of_le (by omega), List.nil_append]
theorem cut_yes (t s r : List UInt8) (w : World) (ht : t = numL s.length ++ s ++ r) (h : s.length < 18446744073709551616) (hn : t.length ≤ 9223372036854775807) :
    Calls Try.prog 71 #[sv t] w fun e w' => e = .returned (.tuple #[sv s, sv r, .bool true]) ∧ Below w.heap.size w w' :=
  (cut_any t w hn).mono fun _ _ ⟨a, b⟩ => ⟨by rw [a, ht, cutL_text s r h]; rfl, b⟩
theorem unhashes_yes (t : List UInt8) (hs : List (List UInt8)) (s : List UInt8) (w : World) (ht : t = hashesL hs ++ s) (h : ∀ x ∈ hs, x.length = 32) (hl : hs.length ≤ 64) (hn : t.length ≤ 9223372036854775807) :
    Calls Try.prog 92 #[sv t] w fun e w' => ∃ a cap, e = .returned (.tuple #[.slice a hs.length cap, sv s, .bool true]) ∧ SlAt w' 32 (.slice a hs.length cap) (hcs hs) ∧ Below w.heap.size w w' :=
  (unhashes_gen t w hn).mono fun _ _ ⟨a, cap, he, hg⟩ => by
    have h1 : unhashesL t = some (hs, s) := by rw [ht, unhashesL_hashes hs s h hl]
    have h2 : usX t = hs := by rw [usX, h1]
    have h3 : usR t = s := by rw [usR, h1]
    have h4 : usB t = true := by rw [usB, h1]; rfl
    have hat := hg.at_
    rw [h2] at hat he
    rw [h3, h4] at he
    exact ⟨a, cap, he, hat, hg.below⟩
theorem cutL_cut (s : List UInt8) (h : s.length < 18446744073709551616) (k : Nat) (hk : k < (numL s.length ++ s).length) : cutL ((numL s.length ++ s).take k) = none := by
  rw [List.length_append] at hk
  rcases rd_cut s.length h s k with ⟨h1, h2⟩ | ⟨j, h1, h2⟩
  · rw [cutL, h2]
  · rw [cutL, h2]
    simp only
    rw [if_pos (by rw [List.length_take]; omega)]
theorem unhashesL_cut (hs : List (List UInt8)) (h : ∀ x ∈ hs, x.length = 32) (hl : hs.length ≤ 64) (k : Nat) (hk : k < (hashesL hs).length) : unhashesL ((hashesL hs).take k) = none := by
  have hfl := flatten_len h
  rw [hashesL, if_neg (by omega)] at hk ⊢
  rw [List.length_append, hfl] at hk
  rcases rd_cut hs.length (by omega) hs.flatten k with ⟨h1, h2⟩ | ⟨j, h1, h2⟩
  · rw [unhashesL, h2]
  · rw [unhashesL, h2]
    simp only
    rw [if_pos (by rw [List.length_take, hfl]; omega)]
theorem cut_none (t : List UInt8) (w : World) (ht : cutL t = none) (hn : t.length ≤ 9223372036854775807) :
    Calls Try.prog 71 #[sv t] w fun e w' => e = .returned (.tuple #[sv [], sv [], .bool false]) ∧ Below w.heap.size w w' :=
  (cut_any t w hn).mono fun _ _ ⟨a, b⟩ => ⟨by rw [a, ht]; rfl, b⟩
theorem unhashes_none (t : List UInt8) (w : World) (ht : unhashesL t = none) (hn : t.length ≤ 9223372036854775807) :
    Calls Try.prog 92 #[sv t] w fun e w' => e = .returned (.tuple #[.slice none 0 0, sv [], .bool false]) ∧ Below w.heap.size w w' :=
  (unhashes_any t w hn).mono fun _ _ h => ⟨h.no ht, h.below⟩
theorem hashesL_pos (hs : List (List UInt8)) (hl : hs.length ≤ 64) : 0 < (hashesL hs).length := by
  rw [hashesL, if_neg (by omega), List.length_append]
  have := numL_pos hs.length
  omega
theorem form_rd (l : List UInt8) : (rdB l = true → (numL (rdN l) ++ rdR l == l) = true ∧ rdN l < 18446744073709551616) ∧ (rdB l = false → rdN l = 0 ∧ rdR l = []) := by
  unfold rdB rdN rdR
  cases h : rd 0 l with
  | none => simp
  | some x =>
    obtain ⟨n, r⟩ := x
    obtain ⟨h1, h2⟩ := (rd_iff l n r).1 h
    simp only [Option.isSome_some, forall_const, Bool.true_eq_false, false_imp_iff, and_true, beq_iff_eq]
    exact ⟨h2.symm, h1⟩
theorem form_cut (l : List UInt8) : (cuB l = true → (numL (cuT l).length ++ (cuT l ++ cuR l) == l) = true ∧ (cuT l).length ≤ l.length) ∧ (cuB l = false → cuT l = [] ∧ cuR l = []) := by
  unfold cuB cuT cuR cutL
  cases h : rd 0 l with
  | none => simp
  | some x =>
    obtain ⟨n, r⟩ := x
    obtain ⟨h1, h2⟩ := (rd_iff l n r).1 h
    simp only
    by_cases hlt : r.length < n
    · simp [hlt]
    · simp only [hlt, if_false, Option.isSome_some, forall_const, Bool.true_eq_false, false_imp_iff, and_true, beq_iff_eq]
      have : (r.take n).length = n := by simp; omega
      refine ⟨?_, ?_⟩
      · rw [this, List.take_append_drop]; exact h2.symm
      · rw [this, h2, List.length_append]; omega
theorem form_un (l : List UInt8) : (unB l = true → (unT l ++ unR l == l) = true) ∧ (unB l = false → unT l = zero32 ∧ unR l = []) := by
  unfold unB unT unR
  by_cases h : l.length < 32
  · simp [h, show ¬ 32 ≤ l.length by omega]
  · simp [h, show 32 ≤ l.length by omega]
theorem chunks_back (r : List UInt8) : ∀ n, n * 32 ≤ r.length → (chunks r n).flatten ++ r.drop (n * 32) = r
  | 0, _ => by simp [chunks]
  | n + 1, h => by
    have ih := chunks_back r n (by omega)
    rw [chunks, List.flatten_append, List.flatten_singleton, List.append_assoc]
    conv => rhs; rw [← ih]
    congr 1
    rw [show (n + 1) * 32 = n * 32 + 32 by omega, ← List.drop_drop, List.take_append_drop]
theorem form_us (l : List UInt8) : (usB l = true → (hashesL (usX l) ++ usR l == l) = true) ∧ (usB l = false → usX l = [] ∧ usR l = []) := by
  unfold usB usX usR unhashesL
  cases h : rd 0 l with
  | none => simp
  | some x =>
    obtain ⟨n, r⟩ := x
    obtain ⟨h1, h2⟩ := (rd_iff l n r).1 h
    simp only
    by_cases hlt : 64 < n ∨ r.length < n * 32
    · simp [hlt]
    · simp only [hlt, if_false, Option.isSome_some, forall_const, Bool.true_eq_false, false_imp_iff, and_true, beq_iff_eq]
      rw [hashesL, chunks_length, if_neg (by omega), List.append_assoc, chunks_back r n (by omega)]
      exact h2.symm
end Go.Proofs.Ytjpnlnbpaecciaa
