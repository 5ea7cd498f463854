import Derived.Test.YtjpnlnbpaecciaaCodec3
set_option maxRecDepth 100000
namespace Go.Proofs.Ytjpnlnbpaecciaa
open Go.RowKit Go.Spec
theorem run_string_lit {w : World} (x : Int) (b : UInt8) (hx : Value.int .u8 x = bcell b) : (convert 79 9 (.slice (some ⟨w.heap.size, 0, none⟩) 1 1)).run Try.prog (w.alloc (.cells #[.int .u8 x] 5)) = .ok (sv [b]) (w.alloc (.cells #[.int .u8 x] 5)) := by
  rw [hx]
  exact run_string_own (P := Try.prog) (base := w.heap.size) (n := 1) (l := [b]) 79 9 5 Try.underlying79 Try.underlying5 Try.underlying9 (ownsRow_lit (w := w) (base := w.heap.size) (e := 5) (bcell b) (Nat.le_refl _))
theorem run_string_one (x : Int) (b : UInt8) (hx : Value.int .u8 x = bcell b) (W : World) (o c : Nat) (h : W.cell? ⟨o, 0, none⟩ = some (.int .u8 x)) :
    (convert 79 9 (.slice (some ⟨o, 0, none⟩) 1 c)).run Try.prog W = .ok (sv [b]) W := by
  refine run_convert_bytes_back W 79 9 5 ⟨o, 0, none⟩ c [b] Try.underlying79 Try.underlying5 Try.underlying9 ?_
  intro j hj
  have : j = 0 := by simpa using hj
  subst this
  rw [Addr.add_lit]
  simp only [Nat.add_zero, List.getElem_cons_zero]
  rw [h, hx]; rfl
set_option maxHeartbeats 1000000 in
theorem rahead_any (f : Nat) : ∀ (n : Nat) (x : Int) (w : World), x = n → 0 < n → n < 128 ^ (f + 1) → f ≤ 8 →
    Calls Try.prog 88 #[.int .u64 x] w fun e w' => e = .returned (sv (hiN n)) ∧ Below w.heap.size w w' := by
  induction f with
  | zero =>
    rintro n x w rfl h0 h1 hf
    have Hfin := hid (show hiN n = [hib n] by rw [hiN_pos n h0, show n / 128 = 0 by omega, hiN_zero]; rfl)
    have h2 : n < 128 := by omega
    have hcv := run_string_lit (w := w) ((n : Int) % 128 + 128) (hib n) (hib_cell n).symm
    clear h1
    go_enter Try.func88, Try.ntmps88
    go_wp2_with fail
    go_ret
    exact ⟨by rw [Hfin.out]; rfl, (Below.refl _ _).alloc (Nat.le_refl _) _⟩
  | succ f ih =>
    rintro n x w rfl h0 h1 hf
    by_cases h2 : n < 128
    · exact ih n _ w rfl h0 (Nat.lt_of_lt_of_le h2 (by rw [Nat.pow_succ]; exact Nat.le_mul_of_pos_left _ (Nat.pow_pos (by omega)))) (by omega)
    · have Hfin := hid (show hiN n = hiN (n / 128) ++ [hib n] from hiN_pos n h0)
      have h1' : n < 128 ^ 10 := Nat.lt_of_lt_of_le h1 (Nat.pow_le_pow_right (by omega) (by omega))
      have hlen := hiN_len (n / 128) 9 (by omega)
      have hcv := run_string_lit (w := w) ((n : Int) % 128 + 128) (hib n) (hib_cell n).symm
      have hd : decide ((n : Int) < 128) = false := by simp; omega
      have h3 : n / 128 < 128 ^ (f + 1) := by rw [Nat.pow_succ] at h1; omega
      have Hih := hid ih
      have H3 := hid h3
      have hq : IntKind.u64.wrap ((n : Int) / 128) = (n : Int) / 128 := by rw [IntKind.wrap_u64]; omega
      clear h1 h3 ih h1'
      have h128 : 128 ≤ n := by omega
      clear h2
      go_enter Try.func88, Try.ntmps88
      go_wp2_with (go_at_call 88; go_must (refine (Hih.out (n / 128) _ _ (by omega) (by omega) H3.out (by omega)).mono ?_); rintro e w1 ⟨rfl, hb⟩)
      go_ret
      exact ⟨by rw [Hfin.out]; rfl, ((Below.refl _ _).alloc (Nat.le_refl _) _).trans (hb.mono (by simp))⟩
set_option maxHeartbeats 1000000 in
theorem rnum_any (n : Nat) (w : World) (hn : n < 18446744073709551616) :
    Calls Try.prog 48 #[.int .u64 n] w fun e w' => e = .returned (sv (numL n)) ∧ Below w.heap.size w w' := by
  by_cases h : n < 128
  · have Hfin := hid (show numL n = [lob n] by rw [numL, show n / 128 = 0 by omega, hiN_zero]; rfl)
    have hcv := run_string_lit (w := w) (n : Int) (lob n) (by rw [lob_cell]; congr 1; omega)
    clear hn
    go_enter Try.func48, Try.ntmps48
    go_wp2_with fail
    go_ret
    exact ⟨by rw [Hfin.out]; rfl, (Below.refl _ _).alloc (Nat.le_refl _) _⟩
  · have Hfin := hid (show numL n = hiN (n / 128) ++ [lob n] from rfl)
    have hlen := hiN_len (n / 128) 9 (by omega)
    have H1 := hid (show n / 128 < 128 ^ (8 + 1) by omega)
    have hd : decide ((n : Int) < 128) = false := by simp; omega
    have h128 : 128 ≤ n := by omega
    have hcv := run_string_one ((n : Int) % 128) (lob n) (lob_cell n).symm
    have hq : IntKind.u64.wrap ((n : Int) / 128) = (n : Int) / 128 := by rw [IntKind.wrap_u64]; omega
    have hq4 : (n : Int).tmod 128 = (n : Int) % 128 := Int.tmod_eq_emod_of_nonneg (by omega)
    have hq2 : IntKind.u64.wrap ((n : Int) % 128) = (n : Int) % 128 := by rw [IntKind.wrap_u64]; omega
    have hq3 : IntKind.u8.wrap ((n : Int) % 128) = (n : Int) % 128 := by rw [IntKind.wrap_u8]; omega
    clear h hn
    go_enter Try.func48, Try.ntmps48
    go_wp2_with fail
    go_region_with (go_at_call 88; refine (rahead_any 8 (n / 128) _ _ (by omega) (by omega) H1.out (by omega)).mono ?_; rintro e w1 ⟨rfl, hb⟩; obtain ⟨hc, hf⟩ := bcells hb)
    all_goals go_wp2
    all_goals go_ret
    all_goals refine ⟨by rw [Hfin.out]; rfl, ?_⟩
    all_goals first
      | exact ((Below.refl _ w).drew.trans hb).alloc hb.size _
      | exact ((Below.refl _ w).drew.alloc (Nat.le_refl _) _).trans (hb.mono (by simp))
set_option maxHeartbeats 400000 in
theorem rtext_any (l : List UInt8) (w : World) (hn : l.length ≤ 1000000000) :
    Calls Try.prog 50 #[sv l] w fun e w' => e = .returned (sv (numL l.length ++ l)) ∧ Below w.heap.size w w' := by
  have hlen := numL_len l.length (by omega)
  go_enter Try.func50, Try.ntmps50
  go_wp2_with (go_at_call 48; refine (rnum_any _ _ (by omega)).mono ?_; rintro e w1 ⟨rfl, hb⟩)
  go_ret
  exact ⟨rfl, hb⟩
set_option maxHeartbeats 1000000 in
theorem rhash_any (h : List UInt8) (w : World) (hh : h.length = 32) :
    Calls Try.prog 53 #[hv h] w fun e w' => e = .returned (sv h) ∧ Below w.heap.size w w' := by
  obtain ⟨i0, hi, hz0, hz1, hz2⟩ := info_parts Try.infoU8
  have Hh := hid hh
  clear hh
  go_enter Try.func53, Try.ntmps53
  go_wp2
  go_loopw [3, 4] (fun v i wr => ∃ k : Nat, k ≤ 32 ∧ i = .int .i64 k ∧ wr.ownsRow (w.heap.size + 1) 5 1 v k ((h.take k).map bcell) ∧ wr.heap[w.heap.size]? = some (.cells (hc h) 34 (0, 0)) ∧ Below w.heap.size w wr)
    (fun _ i _ => 32 - (intOf i).toNat)
  case atStart => exact ⟨0, by omega, rfl, by simpa using World.ownsRow_nil _ _ _ _, heap_alloc_new w _, (Below.refl _ _).alloc (Nat.le_refl _) _⟩
  case round =>
    obtain ⟨k, hk, rfl, hown, hg, hb⟩ := hrel
    have Hg := hid hg; clear hg
    have hsz : w.heap.size < wr.heap.size := (Array.getElem?_eq_some_iff.1 Hg.out).1
    by_cases hlt : k < 32
    · obtain ⟨b, hbk⟩ : ∃ b, h[k]'(by rw [Hh.out]; exact hlt) = b := ⟨_, rfl⟩
      have hcell : wr.cell? ⟨w.heap.size, k, none⟩ = some (.int .u8 (b.toNat : Int)) := by
        rw [cell_of_row wr _ _ _ _ _ Hg.out, hc_get h k (by rw [Hh.out]; exact hlt), hbk]; rfl
      have Htk := hid (show h.take (k + 1) = h.take k ++ [b] by rw [List.take_succ_eq_append_getElem (by rw [Hh.out]; exact hlt), hbk])
      clear hbk
      go_wp2_with (at_builtin; go_must (refine wpList_app rfl _ _ 79 rfl (w.heap.size + 1) 5 i0 (.int .u8 0) 1 1 Try.underlying79 hi hz0 hz1 hz2 rfl (by decide) _ k ((h.take k).map bcell) rfl ?c1 ⟨wr.heap.size, 0, none⟩ 1 1 [.int .u8 (b.toNat : Int)] rfl rfl ?c3 ?c4 ?c5 ?c6 ?c7 ?_))
      case c1 => exact hown.alloc _
      case c3 =>
        intro j u hj
        exact row_alloc (w := wr) (cs := #[.int .u8 (b.toNat : Int)]) j u hj
      case c4 => intro u hu; simp at hu; subst hu; rfl
      case c5 => unfold maxLen; omega
      case c6 => omega
      case c7 => simp; omega
      intro v' w5 hown' hgrow hat
      go_wp2
      go_roundw
      case rel =>
        refine ⟨k + 1, by omega, by go_num, ?_, ?_, ?_⟩
        · rw [Htk.out, List.map_append, List.map_take]; exact hown'
        · rw [hgrow.block w.heap.size (by simp; omega) (fun h => by have := (hown.lt _ h.symm).1; omega), Below.heap_alloc _ _ _ hsz]; exact Hg.out
        · exact (hb.alloc hb.size _).grown hgrow (by have := hb.size; simp; omega) (fun q hq => by have := (hown.lt q hq).1; omega)
      case measure => simp [intOf]; omega
    · have hke : k = 32 := by omega
      subst hke
      have hcv := run_string_own (P := Try.prog) (w := wr) (l := h.take 32) 79 9 5 Try.underlying79 Try.underlying5 Try.underlying9 hown
      have Htk := hid (show h.take 32 = h by rw [List.take_of_length_le (by rw [Hh.out]; exact Nat.le_refl _)])
      rw [Htk.out] at hcv
      go_wp2
      go_ret
      exact ⟨rfl, hb⟩
set_option maxRecDepth 100000 in
set_option maxHeartbeats 1000000 in
theorem rread_any (l : List UInt8) (w : World) (hn : l.length ≤ 9223372036854775807) :
    Calls Try.prog 73 #[sv l] w fun e w' => e = .returned (rdV (rd 0 l)) ∧ Below w.heap.size w w' := by
  go_enter Try.func73, Try.ntmps73
  go_wp2
  go_loop [5] (fun i => ∃ (k : Nat), i = .int .i64 k ∧ k ≤ l.length ∧ k ≤ 10 ∧ ∀ j (hj : j < l.length), j < k → 128 ≤ l[j].toNat) (fun i => l.length - (intOf i).toNat)
  case atStart => exact ⟨0, rfl, by omega, by omega, fun j _ hj => absurd hj (by omega)⟩
  case round =>
    obtain ⟨k, rfl, hk, hk10, hbig⟩ := hrel
    have Hbig := hid hbig; clear hbig
    by_cases hlt : k < l.length
    · by_cases h10 : k < 10
      · obtain ⟨c, hc⟩ : ∃ c : UInt8, l[k] = c := ⟨_, rfl⟩
        by_cases h128 : 128 ≤ c.toNat
        · have Hc := hid hc
          have hd1 : decide ((k : Int) < 10) = true := by simp; omega
          go_wp2
          go_round
          case rel =>
            refine ⟨k + 1, by go_num, by omega, by omega, fun j hj hjk => ?_⟩
            rcases Nat.lt_or_ge j k with h | h
            · exact Hbig.out j hj h
            · obtain rfl : j = k := by omega
              rw [Hc.out]; exact h128
          case measure => simp [intOf]; omega
        · have Hc := hid hc
          have hd0 : c.toNat < 128 := by omega
          have hd1 : decide ((k : Int) < 10) = true := by simp; omega
          have hd2 : decide ((128 : Int) ≤ (c.toNat : Int)) = false := by simp; omega
          have hd3 : decide ((9 : Int) < (k : Int)) = false := by simp; omega
          go_wp2
          clear hd1 hd2 hd3
          go_loop [6, 7] (fun n i => ∃ (j : Nat), i = .int .i64 j ∧ j ≤ k + 1 ∧ n = .int .u64 ((val (l.take j) % 18446744073709551616 : Nat) : Int)) (fun _ i => k + 1 - (intOf i).toNat)
          case atStart => exact ⟨0, rfl, by omega, by simp [val]⟩
          case round =>
            obtain ⟨j, rfl, hj, rfl⟩ := hrel
            obtain ⟨m, hm⟩ : ∃ m, val (l.take j) % 18446744073709551616 = m := ⟨_, rfl⟩
            have Hm := hid hm
            rw [hm]
            clear hm
            by_cases hjk : j ≤ k
            · have hjl : j < l.length := by omega
              obtain ⟨d, hd⟩ : ∃ d, l[j] = d := ⟨_, rfl⟩
              have Hval := hid (show val (l.take (j + 1)) = val (l.take j) * 128 + d.toNat % 128 by rw [List.take_succ_eq_append_getElem hjl, val_snoc, hd])
              go_wp2
              go_round
              case rel =>
                refine ⟨j + 1, by go_num, by omega, ?_⟩
                congr 1
                rw [Hval.out]
                have := Hm.out
                simp only [IntKind.wrap_u64]
                omega
              case measure => simp [intOf]; omega
            · have hje : j = k + 1 := by omega
              subst hje
              have hm64 : m < 18446744073709551616 := by rw [← Hm.out]; exact Nat.mod_lt _ (by omega)
              have Hm64 := hid hm64; clear hm64
              have hk1 : (k : Int) + 1 ≤ (l.length : Int) := by omega
              have hw : IntKind.i64.wrap ((k : Int) + 1) = (k : Int) + 1 := by rw [IntKind.wrap_i64]; omega
              have hw2 : ((k : Int) + 1).toNat = k + 1 := by omega
              have hw3 : (0 : Int) ≤ (k : Int) + 1 := by omega
              have hW : ∀ (u : List UInt8), u = l.take (k + 1) → rd 0 (u ++ l.drop (k + 1)) = rd 0 l := fun u hu => by rw [hu, List.take_append_drop]
              by_cases he : numL m = l.take (k + 1)
              · have Hfin := hid (show rd 0 l = some (m, l.drop (k + 1)) by rw [← hW _ he]; exact rd_num m Hm64.out _)
                have hbq : (numL m == l.take (k + 1)) = true := by simpa using he
                clear he hW
                go_wp2_with fail
                refine wp_region_later (by kernel_rfl) (by kernel_rfl) ?_
                repeat (go_big_quiet_step ((go_at_call 48; exact calls_later (rnum_any _ _ Hm64.out))))
                refine wpQuiet_nil ?_
                rintro _ ⟨x, rfl⟩
                have hb := lat_below x
                generalize lat x = w2 at *
                go_wp2_with fail
                go_quiet (fail)
                go_wp2
                go_ret3
                exact ⟨by rw [Hfin.out]; simp [rdV], below_drewN hb _⟩
              · have Hfin := hid (show rd 0 l = none by
                  cases h : rd 0 l with
                  | none => rfl
                  | some x =>
                    exfalso
                    have h1 := rd_stop l x.1 x.2 k h Hbig.out hlt (by rw [Hc.out]; exact hd0)
                    have h2 := val_num x.1
                    have h3 := (rd_iff l x.1 x.2).1 h
                    rw [h1] at h2
                    have h4 := Hm.out
                    rw [h2, Nat.mod_eq_of_lt h3.1] at h4
                    exact he (h4 ▸ h1))
                have hbq : (numL m == l.take (k + 1)) = false := by simpa using he
                clear he hW
                go_wp2_with fail
                refine wp_region_later (by kernel_rfl) (by kernel_rfl) ?_
                repeat (go_big_quiet_step ((go_at_call 48; exact calls_later (rnum_any _ _ Hm64.out))))
                refine wpQuiet_nil ?_
                rintro _ ⟨x, rfl⟩
                have hb := lat_below x
                generalize lat x = w2 at *
                go_wp2
                go_ret3
                exact ⟨by rw [Hfin.out]; rfl, hb⟩
      · have hke : k = 10 := by omega
        subst hke
        have Hfin := hid (show rd 0 l = none by
          cases h : rd 0 l with
          | none => rfl
          | some x =>
            have := rd_long l x.1 x.2 10 h Hbig.out hk
            omega)
        go_wp2
        go_ret3
        exact ⟨by rw [Hfin.out]; rfl, Below.refl _ _⟩
    · have hke : k = l.length := by omega
      subst hke
      have Hfin := hid (show rd 0 l = none by
          cases h : rd 0 l with
          | none => rfl
          | some x =>
            have := rd_long l x.1 x.2 l.length h Hbig.out hk
            omega)
      go_wp2
      go_ret3
      exact ⟨by rw [Hfin.out]; rfl, Below.refl _ _⟩
end Go.Proofs.Ytjpnlnbpaecciaa
