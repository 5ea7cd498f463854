/- MessagesForm -/
import Derived.Test.YtjpnlnbpaecciaaQRpGet

set_option maxRecDepth 100000
namespace Go.Proofs.Ytjpnlnbpaecciaa
open Go.RowKit Go.Spec
theorem getRq_head {l : List UInt8} {r : Rq} (h : getRq l = some r) : ∃ s, l = 81 :: s := by
  obtain ⟨id, k, L, _, _, _, _, _, _, rfl⟩ := putRq_nat (getRq_back h).1
  exact ⟨_, rfl⟩
theorem getRp_head {l : List UInt8} {y : RpK} (h : getRp l = some y) : ∃ s, l = 82 :: s := by
  obtain ⟨id, _, _, k, _, b, _, rfl, _⟩ := putRp_cases (getRp_back h).1
  exact ⟨_, rfl⟩
theorem getR_one {l : List UInt8} {r : Rq} (h : getRq l = some r) : getRp l = none := by
  cases hp : getRp l with
  | none => rfl
  | some y =>
    obtain ⟨s, hs⟩ := getRq_head h
    obtain ⟨s', hs'⟩ := getRp_head hp
    rw [hs] at hs'
    cases hs'
theorem en_small : ∀ (n : Nat) (x : Rds), (∀ t ∈ enL n x, t.length ≤ x.1.length)
  | 0, x => fun t ht => by simp [enL] at ht
  | n + 1, x => by
    intro t ht
    unfold enL at ht
    split at ht
    · rw [List.mem_cons] at ht
      rcases ht with rfl | ht
      · exact cuT_le _
      · exact Nat.le_trans (en_small n _ t ht) (cuR_le _)
    · simp at ht
/-- what is got is small -/
theorem getRp_small {l : List UInt8} {y : RpK} (h : getRp l = some y) : RpSmall y := by
  obtain ⟨hp, hc, ho, hl⟩ := getRp_back h
  obtain ⟨id, hi, hid, k, hk, b, hb, _, hk1, hk2⟩ := putRp_cases hp
  rw [← hc]
  unfold RpK.canon
  unfold bodyRp at hb
  split at hb
  · rename_i h1
    rw [if_pos h1]
    split at hb
    · exact ⟨by simp, by simp, by simp, by simp, by simp only; omega⟩
    · cases hb
  split at hb
  · rename_i h1 h2
    rw [if_neg h1, if_pos (.inl h2)]
    split at hb
    · rename_i hh
      obtain ⟨q, hq, _⟩ := headsB_one hh
      exact ⟨by rw [hq]; simp, by simp, by simp, by simp, by simp⟩
    · cases hb
  split at hb
  · rename_i h1 h2 h3
    rw [if_neg h1, if_neg (by omega), if_pos h3]
    split at hb
    · rename_i hh
      obtain ⟨a1, a2, a3⟩ := entriesB_iff.1 hh
      exact ⟨by simp, by simp only; omega, fun t ht => by have := a1 t ht; omega, by simp only; omega, by simp⟩
    · cases hb
  split at hb
  · rename_i h1 h2 h3 h4
    rw [if_neg h1, if_neg (by omega), if_neg h3, if_pos h4]
    split at hb
    · exact ⟨by simp, by simp, by simp, by simp only; omega, by simp⟩
    · cases hb
  split at hb
  · rename_i h1 h2 h3 h4 h5
    rw [if_neg h1, if_pos (.inr h5)]
    split at hb
    · rename_i hh
      obtain ⟨q, q', hq, _⟩ := headsB_two hh
      exact ⟨by rw [hq]; simp, by simp, by simp, by simp, by simp⟩
    · cases hb
  cases hb
theorem zeroRp_small : RpSmall zeroRp := ⟨by decide, by decide, by simp [zeroRp], by decide, by decide⟩
set_option maxHeartbeats 8000000 in
theorem messagesForm_law (l : List UInt8) (w : World) (hl : l.length ≤ 9223372036854775807) :
    Calls Try.prog 11 #[sv l] w fun e w' => e = .returned (.bool true) ∧ Below w.heap.size w w' := by
  by_cases h4 : 40000 < l.length
  · have d4 : decide ((40000 : Int) < (l.length : Int)) = true := decide_eq_true (by omega)
    clear h4
    go_enter Try.func11, Try.ntmps11
    go_wp2_with (go_at_call 23; refine (spoken_any _).mono ?_; rintro e w1 ⟨rfl, hb1⟩)
    go_ret
    exact ⟨rfl, hb1⟩
  have d4 : decide ((40000 : Int) < (l.length : Int)) = false := decide_eq_false (by omega)
  have hl9 : l.length ≤ 1000000000 := by omega
  have CQ := hid (fun w0 => rqget_any l w0 hl9)
  have CP := hid (fun w0 => rpget_any l w0 hl9)
  have q : (l == l) = true := by simp
  clear h4
  cases hq : getRq l with
  | some r =>
    have hp := getR_one hq
    have Hp := hid hp
    rw [hq] at CQ
    have CB := hid (fun w0 => rqput_any r w0)
    rw [(getRq_back hq).1] at CB
    clear hq hp
    go_enter Try.func11, Try.ntmps11
    go_upto_region 5 with (first
      | (go_at_call 36; refine (CQ.out _).mono ?_; rintro e w1 ⟨rfl, hb1⟩; simp only [getRqV])
      | (go_at_call 38; refine (CP.out _).mono ?_; rintro e w2 ⟨hno, hyes, hb2⟩; obtain rfl := hno Hp.out; clear hno hyes)
      | ((with_reducible show wpList _ _ _ ({ dst := _, op := Op.store _ _ _, type := _, pos := _, after := _, guard := _ } :: _) _ _); refine wpList_store_newA rfl 48 _ _ rfl rfl r.cs rfl _ 48 rfl Try.sizeRq (Rq.cs_one _) ?_)
      | ((with_reducible show wpList _ _ _ ({ dst := _, op := Op.store _ _ _, type := _, pos := _, after := _, guard := _ } :: _) _ _); refine wpList_store_newA rfl 51 _ _ rfl rfl rpZ rfl _ 51 rfl Try.sizeRp rpZ_one ?_))
    have hX := ((Blk.new w1 r.cs 48).later hb2).alloc (.cells rpZ 51)
    have hW : Below w.heap.size w (w2.alloc (.cells rpZ 51)) := by
      have h2 := bth (hb1.alloc hb1.size (.cells r.cs 48)) hb2
      exact h2.alloc h2.size _
    refine wp_world (fun W => Blk W w1.heap.size r.cs 48 ∧ Below w.heap.size w W) ⟨hX, hW⟩ ?_
    rintro W ⟨hX, hW⟩
    have HX := hid hX; have HW := hid hW
    clear hX hW hb1 hb2
    go_wp2_with (first
      | ((with_reducible show wpList _ _ _ ({ dst := _, op := Op.load 48 _, type := _, pos := _, after := _, guard := _ } :: _) _ _); refine wpList_load_blk rfl 48 _ rfl w1.heap.size rfl 48 r.cs _ HX.out Try.underlying48 rfl Try.sizeRq ?_)
      | (go_at_call 24; refine (CB.out _).mono ?_; rintro e w5 ⟨rfl, hb5⟩; simp only [putR])
      | (go_at_call 23; refine (spoken_any _).mono ?_; rintro e w6 ⟨rfl, hb6⟩))
    go_ret
    exact ⟨rfl, bth HW.out (bth hb5 hb6)⟩
  | none =>
    rw [hq] at CQ
    clear hq
    cases hp : getRp l with
    | some y =>
      have Hp := hid hp
      have HSm := hid (getRp_small hp)
      have Hput := hid (getRp_back hp).1
      clear hp
      go_enter Try.func11, Try.ntmps11
      go_upto_region 5 with (first
        | (go_at_call 36; refine (CQ.out _).mono ?_; rintro e w1 ⟨rfl, hb1⟩; simp only [getRqV])
        | (go_at_call 38; refine (CP.out _).mono ?_; rintro e w2 ⟨hno, hyes, hb2⟩; obtain ⟨vh, ve, vp, ds, rfl, hin⟩ := hyes y Hp.out; have Hin := hid hin; clear hno hyes hin)
        | ((with_reducible show wpList _ _ _ ({ dst := _, op := Op.store _ _ _, type := _, pos := _, after := _, guard := _ } :: _) _ _); refine wpList_store_newA rfl 48 _ _ rfl rfl zeroRq.cs rfl _ 48 rfl Try.sizeRq (Rq.cs_one _) ?_)
        | ((with_reducible show wpList _ _ _ ({ dst := _, op := Op.store _ _ _, type := _, pos := _, after := _, guard := _ } :: _) _ _); refine wpList_store_newA rfl 51 _ _ rfl rfl (rpC y vh ve vp) rfl _ 51 rfl Try.sizeRp (rpC_one _ _ _ _ Hin.out.ones.1 Hin.out.ones.2.1 Hin.out.ones.2.2) ?_))
      have hX := Blk.new w2 (rpC y vh ve vp) 51
      have hI := Hin.out.below ((Below.refl _ w2).alloc (Nat.le_refl _) (.cells (rpC y vh ve vp) 51))
      have hW : Below w.heap.size w (w2.alloc (.cells (rpC y vh ve vp) 51)) := by
        have h2 := bth (hb1.alloc hb1.size (.cells zeroRq.cs 48)) hb2
        exact h2.alloc h2.size _
      refine wp_world (fun W => Blk W w2.heap.size (rpC y vh ve vp) 51 ∧ Below w.heap.size w W ∧ RpIn W y vh ve vp ds) ⟨hX, hW, hI⟩ ?_
      rintro W ⟨hX, hW, hI⟩
      have HX := hid hX; have HW := hid hW
      have CB := hid (rpput_any y vh ve vp ds W hI HSm.out)
      rw [Hput.out] at CB
      clear hX hW hb1 hb2 hI
      go_wp2_with (first
        | ((with_reducible show wpList _ _ _ ({ dst := _, op := Op.load 51 _, type := _, pos := _, after := _, guard := _ } :: _) _ _); refine wpList_load_blk rfl 51 _ rfl w2.heap.size rfl 51 (rpC y vh ve vp) _ HX.out Try.underlying51 rfl Try.sizeRp ?_)
        | (go_at_call 26; refine (CB.out).mono ?_; rintro e w5 ⟨rfl, hb5⟩; simp only [putR])
        | (go_at_call 23; refine (spoken_any _).mono ?_; rintro e w6 ⟨rfl, hb6⟩))
      go_ret
      exact ⟨rfl, bth HW.out (bth hb5 hb6)⟩
    | none =>
      have Hp := hid hp
      clear hp
      go_enter Try.func11, Try.ntmps11
      go_upto_region 5 with (first
        | (go_at_call 36; refine (CQ.out _).mono ?_; rintro e w1 ⟨rfl, hb1⟩; simp only [getRqV])
        | (go_at_call 38; refine (CP.out _).mono ?_; rintro e w2 ⟨hno, hyes, hb2⟩; obtain rfl := hno Hp.out; clear hno hyes)
        | ((with_reducible show wpList _ _ _ ({ dst := _, op := Op.store _ _ _, type := _, pos := _, after := _, guard := _ } :: _) _ _); refine wpList_store_newA rfl 48 _ _ rfl rfl zeroRq.cs rfl _ 48 rfl Try.sizeRq (Rq.cs_one _) ?_)
        | ((with_reducible show wpList _ _ _ ({ dst := _, op := Op.store _ _ _, type := _, pos := _, after := _, guard := _ } :: _) _ _); refine wpList_store_newA rfl 51 _ _ rfl rfl rpZ rfl _ 51 rfl Try.sizeRp rpZ_one ?_))
      have hX := ((Blk.new w1 zeroRq.cs 48).later hb2).alloc (.cells rpZ 51)
      have hY := Blk.new w2 rpZ 51
      have hW : Below w.heap.size w (w2.alloc (.cells rpZ 51)) := by
        have h2 := bth (hb1.alloc hb1.size (.cells zeroRq.cs 48)) hb2
        exact h2.alloc h2.size _
      refine wp_world (fun W => Blk W w1.heap.size zeroRq.cs 48 ∧ Blk W w2.heap.size rpZ 51 ∧ Below w.heap.size w W) ⟨hX, hY, hW⟩ ?_
      rintro W ⟨hX, hY, hW⟩
      have HX := hid hX; have HY := hid hY; have HW := hid hW
      clear hX hY hW hb1 hb2
      have x0 : zeroRq.cs[0]? = some (.int .i64 0) := rfl
      have x1 : zeroRq.cs[1]? = some (.int .i64 0) := rfl
      have x2 : zeroRq.cs[2]? = some (.int .i64 0) := rfl
      have x3 : zeroRq.cs[3]? = some (.int .i64 0) := rfl
      have x4 : zeroRq.cs[4]? = some (.int .i64 0) := rfl
      have hkey : sameRp zeroRp zeroRp = true := by simp [sameRp]
      have CS := fun x : Later W => msame_any zeroRp zeroRp nilV nilV nilV nilV nilV nilV [] [] (lat x) (rpIn_nil _ 0 0 0) (rpIn_nil _ 0 0 0) zeroRp_small zeroRp_small
      rw [hkey] at CS
      have CS := hid (show ∀ x : Later W, Calls Try.prog 28 #[.agg rpZ, .agg #[.int .i64 0, .int .i64 0, .int .i64 0, .slice none 0 0, .slice none 0 0, .slice none 0 0]] (lat x) fun e w' => e = .returned (.bool true) ∧ Below (lat x).heap.size (lat x) w' from CS)
      have CK := hid (fun x : Later W => spoken_any (lat x))
      clear hkey
      go_upto_region 13 with fail
      refine wp_region_seq_later ?_
      repeat (first
        | (refine wpQuiet_load_aggG rfl 48 _ rfl ⟨w1.heap.size, 0, none⟩ rfl zeroRq.cs _ (by rintro _ ⟨q, rfl⟩; exact (HX.out.later (lat_below q)).cells) Try.underlying48 rfl Try.sizeRq ?_; simp only [Act.put, List.setIfInBounds_toArray, List.set_cons_succ, List.set_cons_zero])
        | (refine wpQuiet_load_aggG rfl 51 _ rfl ⟨w2.heap.size, 0, none⟩ rfl rpZ _ (by rintro _ ⟨q, rfl⟩; exact (HY.out.later (lat_below q)).cells) Try.underlying51 rfl Try.sizeRp ?_; simp only [Act.put, List.setIfInBounds_toArray, List.set_cons_succ, List.set_cons_zero])
        | go_big_quiet_step ((first | (go_at_call 28; with_reducible exact calls_later (CS.out _)) | (go_at_call 23; with_reducible exact calls_later (CK.out _)))))
      refine wpQuiet_nil ?_
      rintro _ ⟨q7, rfl⟩
      have hb7 := lat_below q7
      generalize lat q7 = w7 at *
      go_wp2
      go_ret
      exact ⟨rfl, bth HW.out hb7⟩
end Go.Proofs.Ytjpnlnbpaecciaa
