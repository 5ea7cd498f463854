/- Ref03 -/
import Derived.Test.YtbpjlancjdbehaaDoorQCodecLaw
import Derived.Test.YtbpjlancjdbehaaDoorQTreeHash

set_option maxRecDepth 100000
namespace Go.Proofs.YtbpjlancjdbehaaDoor
open Go.RowKit Go.Spec
theorem run_string_lit {w : World} (x : Int) (b : UInt8) (hx : Value.int .u8 x = bcell b) : (convert 108 9 (.slice (some ⟨w.heap.size, 0, none⟩) 1 1)).run Tryd.prog (w.alloc (.cells #[.int .u8 x] 5)) = .ok (sv [b]) (w.alloc (.cells #[.int .u8 x] 5)) := by
  rw [hx]
  exact run_string_own (P := Tryd.prog) (base := w.heap.size) (n := 1) (l := [b]) 108 9 5 Tryd.underlying108 Tryd.underlying5 Tryd.underlying9 (ownsRow_lit (w := w) (base := w.heap.size) (e := 5) (bcell b) (Nat.le_refl _))
theorem run_string_one (x : Int) (b : UInt8) (hx : Value.int .u8 x = bcell b) (W : World) (o c : Nat) (h : W.cell? ⟨o, 0, none⟩ = some (.int .u8 x)) :
    (convert 108 9 (.slice (some ⟨o, 0, none⟩) 1 c)).run Tryd.prog W = .ok (sv [b]) W := by
  refine run_convert_bytes_back W 108 9 5 ⟨o, 0, none⟩ c [b] Tryd.underlying108 Tryd.underlying5 Tryd.underlying9 ?_
  intro j hj
  have : j = 0 := by simpa using hj
  subst this
  rw [Addr.add_lit]
  simp only [Nat.add_zero, List.getElem_cons_zero]
  rw [h, hx]; rfl
set_option maxHeartbeats 1000000 in
theorem rahead_any (f : Nat) : ∀ (n : Nat) (x : Int) (w : World), x = n → 0 < n → n < 128 ^ (f + 1) → f ≤ 8 →
    Calls Tryd.prog 113 #[.int .u64 x] w fun e w' => e = .returned (sv (hiN n)) ∧ Below w.heap.size w w' := by
  induction f with
  | zero =>
    rintro n x w rfl h0 h1 hf
    have Hfin := hid (show hiN n = [hib n] by rw [hiN_pos n h0, show n / 128 = 0 by omega, hiN_zero]; rfl)
    have h2 : n < 128 := by omega
    have hcv := run_string_lit (w := w) ((n : Int) % 128 + 128) (hib n) (hib_cell n).symm
    clear h1
    go_enter Tryd.func113, Tryd.ntmps113
    go_wp2_with fail
    go_ret
    exact ⟨by rw [Hfin.out]; rfl, (Below.refl _ _).alloc (Nat.le_refl _) _⟩
  | succ f ih =>
    rintro n x w rfl h0 h1 hf
    by_cases h2 : n < 128
    · exact ih n _ w rfl h0 (Nat.lt_of_lt_of_le h2 (by rw [Nat.pow_succ]; exact Nat.le_mul_of_pos_left _ (Nat.pow_pos (by omega)))) (by omega)
    · have Hfin := hid (show hiN n = hiN (n / 128) ++ [hib n] from hiN_pos n h0)
      have h1' : n < 128 ^ 10 := Nat.lt_of_lt_of_le h1 (Nat.pow_le_pow_right (by omega) (by omega))
      have hlen := hiN_len (n / 128) 9 (by omega)
      have hcv := run_string_lit (w := w) ((n : Int) % 128 + 128) (hib n) (hib_cell n).symm
      have hd : decide ((n : Int) < 128) = false := by simp; omega
      have h3 : n / 128 < 128 ^ (f + 1) := by rw [Nat.pow_succ] at h1; omega
      have Hih := hid ih
      have H3 := hid h3
      have hq : IntKind.u64.wrap ((n : Int) / 128) = (n : Int) / 128 := by rw [IntKind.wrap_u64]; omega
      clear h1 h3 ih h1'
      have h128 : 128 ≤ n := by omega
      clear h2
      go_enter Tryd.func113, Tryd.ntmps113
      go_wp2_with (go_at_call 113; go_must (refine (Hih.out (n / 128) _ _ (by omega) (by omega) H3.out (by omega)).mono ?_); rintro e w1 ⟨rfl, hb⟩)
      go_ret
      exact ⟨by rw [Hfin.out]; rfl, ((Below.refl _ _).alloc (Nat.le_refl _) _).trans (hb.mono (by simp))⟩
set_option maxHeartbeats 1000000 in
theorem rnum_any (n : Nat) (w : World) (hn : n < 18446744073709551616) :
    Calls Tryd.prog 103 #[.int .u64 n] w fun e w' => e = .returned (sv (numL n)) ∧ Below w.heap.size w w' := by
  by_cases h : n < 128
  · have Hfin := hid (show numL n = [lob n] by rw [numL, show n / 128 = 0 by omega, hiN_zero]; rfl)
    have hcv := run_string_lit (w := w) (n : Int) (lob n) (by rw [lob_cell]; congr 1; omega)
    clear hn
    go_enter Tryd.func103, Tryd.ntmps103
    go_wp2_with fail
    go_ret
    exact ⟨by rw [Hfin.out]; rfl, (Below.refl _ _).alloc (Nat.le_refl _) _⟩
  · have Hfin := hid (show numL n = hiN (n / 128) ++ [lob n] from rfl)
    have hlen := hiN_len (n / 128) 9 (by omega)
    have H1 := hid (show n / 128 < 128 ^ (8 + 1) by omega)
    have hd : decide ((n : Int) < 128) = false := by simp; omega
    have h128 : 128 ≤ n := by omega
    have hcv := run_string_one ((n : Int) % 128) (lob n) (lob_cell n).symm
    have hq : IntKind.u64.wrap ((n : Int) / 128) = (n : Int) / 128 := by rw [IntKind.wrap_u64]; omega
    have hq4 : (n : Int).tmod 128 = (n : Int) % 128 := Int.tmod_eq_emod_of_nonneg (by omega)
    have hq2 : IntKind.u64.wrap ((n : Int) % 128) = (n : Int) % 128 := by rw [IntKind.wrap_u64]; omega
    have hq3 : IntKind.u8.wrap ((n : Int) % 128) = (n : Int) % 128 := by rw [IntKind.wrap_u8]; omega
    clear h hn
    go_enter Tryd.func103, Tryd.ntmps103
    go_wp2_with fail
    go_region_with (go_at_call 113; refine (rahead_any 8 (n / 128) _ _ (by omega) (by omega) H1.out (by omega)).mono ?_; rintro e w1 ⟨rfl, hb⟩; obtain ⟨hc, hf⟩ := bcells hb)
    all_goals go_wp2
    all_goals go_ret
    all_goals refine ⟨by rw [Hfin.out]; rfl, ?_⟩
    all_goals first
      | exact ((Below.refl _ w).drew.trans hb).alloc hb.size _
      | exact ((Below.refl _ w).drew.alloc (Nat.le_refl _) _).trans (hb.mono (by simp))
set_option maxHeartbeats 400000 in
theorem rtext_any (l : List UInt8) (w : World) (hn : l.length ≤ 1000000000) :
    Calls Tryd.prog 88 #[sv l] w fun e w' => e = .returned (sv (numL l.length ++ l)) ∧ Below w.heap.size w w' := by
  have hlen := numL_len l.length (by omega)
  go_enter Tryd.func88, Tryd.ntmps88
  go_wp2_with (go_at_call 103; refine (rnum_any _ _ (by omega)).mono ?_; rintro e w1 ⟨rfl, hb⟩)
  go_ret
  exact ⟨rfl, hb⟩
set_option maxRecDepth 100000 in
set_option maxHeartbeats 1000000 in
theorem rread_any (l : List UInt8) (w : World) (hn : l.length ≤ 9223372036854775807) :
    Calls Tryd.prog 102 #[sv l] w fun e w' => e = .returned (rdV (rd 0 l)) ∧ Below w.heap.size w w' := by
  go_enter Tryd.func102, Tryd.ntmps102
  go_wp2
  go_loop [5] (fun i => ∃ (k : Nat), i = .int .i64 k ∧ k ≤ l.length ∧ k ≤ 10 ∧ ∀ j (hj : j < l.length), j < k → 128 ≤ l[j].toNat) (fun i => l.length - (intOf i).toNat)
  case atStart => exact ⟨0, rfl, by omega, by omega, fun j _ hj => absurd hj (by omega)⟩
  case round =>
    obtain ⟨k, rfl, hk, hk10, hbig⟩ := hrel
    have Hbig := hid hbig; clear hbig
    by_cases hlt : k < l.length
    · by_cases h10 : k < 10
      · obtain ⟨c, hc⟩ : ∃ c : UInt8, l[k] = c := ⟨_, rfl⟩
        by_cases h128 : 128 ≤ c.toNat
        · have Hc := hid hc
          have hd1 : decide ((k : Int) < 10) = true := by simp; omega
          go_wp2
          go_round
          case rel =>
            refine ⟨k + 1, by go_num, by omega, by omega, fun j hj hjk => ?_⟩
            rcases Nat.lt_or_ge j k with h | h
            · exact Hbig.out j hj h
            · obtain rfl : j = k := by omega
              rw [Hc.out]; exact h128
          case measure => simp [intOf]; omega
        · have Hc := hid hc
          have hd0 : c.toNat < 128 := by omega
          have hd1 : decide ((k : Int) < 10) = true := by simp; omega
          have hd2 : decide ((128 : Int) ≤ (c.toNat : Int)) = false := by simp; omega
          have hd3 : decide ((9 : Int) < (k : Int)) = false := by simp; omega
          go_wp2
          clear hd1 hd2 hd3
          go_loop [6, 7] (fun n i => ∃ (j : Nat), i = .int .i64 j ∧ j ≤ k + 1 ∧ n = .int .u64 ((val (l.take j) % 18446744073709551616 : Nat) : Int)) (fun _ i => k + 1 - (intOf i).toNat)
          case atStart => exact ⟨0, rfl, by omega, by simp [val]⟩
          case round =>
            obtain ⟨j, rfl, hj, rfl⟩ := hrel
            obtain ⟨m, hm⟩ : ∃ m, val (l.take j) % 18446744073709551616 = m := ⟨_, rfl⟩
            have Hm := hid hm
            rw [hm]
            clear hm
            by_cases hjk : j ≤ k
            · have hjl : j < l.length := by omega
              obtain ⟨d, hd⟩ : ∃ d, l[j] = d := ⟨_, rfl⟩
              have Hval := hid (show val (l.take (j + 1)) = val (l.take j) * 128 + d.toNat % 128 by rw [List.take_succ_eq_append_getElem hjl, val_snoc, hd])
              go_wp2
              go_round
              case rel =>
                refine ⟨j + 1, by go_num, by omega, ?_⟩
                congr 1
                rw [Hval.out]
                have := Hm.out
                simp only [IntKind.wrap_u64]
                omega
              case measure => simp [intOf]; omega
            · have hje : j = k + 1 := by omega
              subst hje
              have hm64 : m < 18446744073709551616 := by rw [← Hm.out]; exact Nat.mod_lt _ (by omega)
              have Hm64 := hid hm64; clear hm64
              have hk1 : (k : Int) + 1 ≤ (l.length : Int) := by omega
              have hw : IntKind.i64.wrap ((k : Int) + 1) = (k : Int) + 1 := by rw [IntKind.wrap_i64]; omega
              have hw2 : ((k : Int) + 1).toNat = k + 1 := by omega
              have hw3 : (0 : Int) ≤ (k : Int) + 1 := by omega
              have hW : ∀ (u : List UInt8), u = l.take (k + 1) → rd 0 (u ++ l.drop (k + 1)) = rd 0 l := fun u hu => by rw [hu, List.take_append_drop]
              by_cases he : numL m = l.take (k + 1)
              · have Hfin := hid (show rd 0 l = some (m, l.drop (k + 1)) by rw [← hW _ he]; exact rd_num m Hm64.out _)
                have hbq : (numL m == l.take (k + 1)) = true := by simpa using he
                clear he hW
                go_wp2_with fail
                refine wp_region_later (by kernel_rfl) (by kernel_rfl) ?_
                repeat (go_big_quiet_step ((go_at_call 103; exact calls_later (rnum_any _ _ Hm64.out))))
                refine wpQuiet_nil ?_
                rintro _ ⟨x, rfl⟩
                have hb := lat_below x
                generalize lat x = w2 at *
                go_wp2_with fail
                go_quiet (fail)
                go_wp2
                go_ret3
                exact ⟨by rw [Hfin.out]; simp [rdV], below_drewN hb _⟩
              · have Hfin := hid (show rd 0 l = none by
                  cases h : rd 0 l with
                  | none => rfl
                  | some x =>
                    exfalso
                    have h1 := rd_stop l x.1 x.2 k h Hbig.out hlt (by rw [Hc.out]; exact hd0)
                    have h2 := val_num x.1
                    have h3 := (rd_iff l x.1 x.2).1 h
                    rw [h1] at h2
                    have h4 := Hm.out
                    rw [h2, Nat.mod_eq_of_lt h3.1] at h4
                    exact he (h4 ▸ h1))
                have hbq : (numL m == l.take (k + 1)) = false := by simpa using he
                clear he hW
                go_wp2_with fail
                refine wp_region_later (by kernel_rfl) (by kernel_rfl) ?_
                repeat (go_big_quiet_step ((go_at_call 103; exact calls_later (rnum_any _ _ Hm64.out))))
                refine wpQuiet_nil ?_
                rintro _ ⟨x, rfl⟩
                have hb := lat_below x
                generalize lat x = w2 at *
                go_wp2
                go_ret3
                exact ⟨by rw [Hfin.out]; rfl, hb⟩
      · have hke : k = 10 := by omega
        subst hke
        have Hfin := hid (show rd 0 l = none by
          cases h : rd 0 l with
          | none => rfl
          | some x =>
            have := rd_long l x.1 x.2 10 h Hbig.out hk
            omega)
        go_wp2
        go_ret3
        exact ⟨by rw [Hfin.out]; rfl, Below.refl _ _⟩
    · have hke : k = l.length := by omega
      subst hke
      have Hfin := hid (show rd 0 l = none by
          cases h : rd 0 l with
          | none => rfl
          | some x =>
            have := rd_long l x.1 x.2 l.length h Hbig.out hk
            omega)
      go_wp2
      go_ret3
      exact ⟨by rw [Hfin.out]; rfl, Below.refl _ _⟩
end Go.Proofs.YtbpjlancjdbehaaDoor
namespace Go.Proofs.YtbpjlancjdbehaaDoor
open Go.RowKit Go.Spec
end Go.Proofs.YtbpjlancjdbehaaDoor
namespace Go.Proofs.YtbpjlancjdbehaaDoor
open Go.RowKit Go.Spec
set_option maxHeartbeats 1000000 in
theorem rhashes_any (v : Value) (hs : List (List UInt8)) (w : World) (hv : SlAt w 32 v (hcs hs)) (hn : hs.length ≤ 9223372036854775807) :
    Calls Tryd.prog 89 #[v] w fun e w' => e = .returned (sv (hashesL hs)) ∧ Below w.heap.size w w' := by
  obtain ⟨a, cap, rfl, hcap⟩ := hv.form
  rw [hcs_length] at *
  by_cases h64 : 64 < hs.length
  · have Hfin := hid (show hashesL hs = [] by rw [hashesL, if_pos h64])
    go_enter Tryd.func89, Tryd.ntmps89
    go_wp2
    go_ret
    exact ⟨by rw [Hfin.out]; rfl, Below.refl _ _⟩
  · have Hfin := hid (show hashesL hs = numL hs.length ++ hs.flatten by rw [hashesL, if_neg h64])
    have hnl := numL_len hs.length (by omega)
    have h64' : hs.length ≤ 64 := by omega
    have hd : decide (64 < (hs.length : Int)) = false := by simp; omega
    clear h64 hn
    have Hv := hid hv; clear hv
    go_enter Tryd.func89, Tryd.ntmps89
    go_wp2_with (go_at_call 103; refine (rnum_any _ _ (by omega)).mono ?_; rintro e w1 ⟨rfl, hb1⟩)
    go_loopw [3, 4] (fun s i wr => ∃ (k : Nat), i = .int .i64 k ∧ k ≤ hs.length ∧ s = sv (numL hs.length ++ (hs.take k).flatten) ∧ Below w.heap.size w wr)
      (fun _ i _ => hs.length - (intOf i).toNat)
    case atStart => exact ⟨0, rfl, by omega, by simp, hb1⟩
    case round =>
      obtain ⟨k, rfl, hk, rfl, hb⟩ := hrel
      have hfl := flatten_len (hs := hs.take k) (fun x hx => Hv.out.len32 x (List.mem_of_mem_take hx))
      rw [List.length_take, Nat.min_eq_left hk] at hfl
      have hfl2 : ((hs.take k).flatten).length ≤ 2048 := by omega
      have htk := fun (hlt : k < hs.length) => (show (hs.take (k + 1)).flatten = (hs.take k).flatten ++ hs[k] by rw [List.take_succ_eq_append_getElem hlt, List.flatten_append, List.flatten_singleton])
      generalize hF : (hs.take k).flatten = F at *
      have HF := hid hF
      clear hfl hF
      by_cases hlt : k < hs.length
      · have htk1 := hid (htk hlt)
        clear htk
        obtain ⟨b, o, rfl, hbl, hcl, hcell⟩ := (Hv.out.below hb (Nat.le_refl _)).at (i := k) (cs := hs[k].map bcell) (by simp [hcs, hlt])
        generalize hs[k] = h at *
        have hcl' : h.length = 32 := by simpa using hcl
        have Hsz := hid (show (Tryd.prog.info? 29).map (·.size) = some h.length by rw [hcl']; exact Tryd.sizeHash)
        have Hcl := hid hcl'
        have hcl2 : h.length ≤ 32 := by omega
        have Hcell := hid hcell
        clear hcell hcl hcl'
        go_wp2_with (first
          | (refine wpList_load_hc rfl 29 _ rfl ⟨b, o + k * 32, none⟩ rfl h _ Hcell.out Tryd.underlying29 rfl Hsz.out ?_)
          | (go_at_call 93; refine (rhash_any h _ Hcl.out).mono ?_; rintro e w3 ⟨rfl, hb3⟩))
        go_roundw
        case rel =>
          refine ⟨k + 1, by go_num, by omega, ?_, hb.trans (hb3.mono hb.size)⟩
          rw [htk1.out, ← List.append_assoc]
        case measure => simp [intOf]; omega
      · have hke : k = hs.length := by omega
        subst hke
        have HF2 := hid (show hs.flatten = F by rw [← HF.out, List.take_length])
        clear htk
        go_wp2
        go_ret
        exact ⟨by rw [Hfin.out, HF2.out]; rfl, hb⟩
end Go.Proofs.YtbpjlancjdbehaaDoor
namespace Go.Spec
open Go.RowKit
end Go.Spec
namespace Go.Proofs.YtbpjlancjdbehaaDoor
open Go.RowKit Go.Spec
theorem SlAt.nil (w : World) : SlAt w 32 (.slice none 0 0) (hcs []) := ⟨none, 0, rfl, Nat.le_refl _, fun _ h => by simp [hcs] at h, fun i cs h => by simp [hcs] at h⟩
def rdN (l : List UInt8) : Nat := match rd 0 l with | some (n, _) => n | none => 0
def rdR (l : List UInt8) : List UInt8 := match rd 0 l with | some (_, r) => r | none => []
def rdB (l : List UInt8) : Bool := (rd 0 l).isSome
theorem rdV_gen (l : List UInt8) : rdV (rd 0 l) = .tuple #[.int .u64 (rdN l), sv (rdR l), .bool (rdB l)] := by
  unfold rdN rdR rdB
  cases rd 0 l <;> rfl
theorem read_gen (l : List UInt8) (w : World) (hn : l.length ≤ 9223372036854775807) :
    Calls Tryd.prog 97 #[sv l] w fun e w' => e = .returned (.tuple #[.int .u64 (rdN l), sv (rdR l), .bool (rdB l)]) ∧ Below w.heap.size w w' :=
  (read_any l w hn).mono fun _ _ ⟨a, b⟩ => ⟨by rw [a, rdV_gen], b⟩
theorem rread_gen (l : List UInt8) (w : World) (hn : l.length ≤ 9223372036854775807) :
    Calls Tryd.prog 102 #[sv l] w fun e w' => e = .returned (.tuple #[.int .u64 (rdN l), sv (rdR l), .bool (rdB l)]) ∧ Below w.heap.size w w' :=
  (rread_any l w hn).mono fun _ _ ⟨a, b⟩ => ⟨by rw [a, rdV_gen], b⟩
theorem form_rd (l : List UInt8) : (rdB l = true → (numL (rdN l) ++ rdR l == l) = true ∧ rdN l < 18446744073709551616) ∧ (rdB l = false → rdN l = 0 ∧ rdR l = []) := by
  unfold rdB rdN rdR
  cases h : rd 0 l with
  | none => simp
  | some x =>
    obtain ⟨n, r⟩ := x
    obtain ⟨h1, h2⟩ := (rd_iff l n r).1 h
    simp only [Option.isSome_some, forall_const, Bool.true_eq_false, false_imp_iff, and_true, beq_iff_eq]
    exact ⟨h2.symm, h1⟩
end Go.Proofs.YtbpjlancjdbehaaDoor
