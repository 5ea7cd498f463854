/- a line's words as the program takes them, plain -/
import Derived.Test.YtdefipnmjfnpeaaDoorQScrPut
import Derived.Lib.SplitLaws
set_option maxRecDepth 100000
namespace Go.Proofs.YtdefipnmjfnpeaaDoor
open Go.RowKit Go.Spec
theorem idx_hit (w r : List UInt8) (c : UInt8) (h : ∀ x ∈ w, x ≠ c) : Lib.indexByte (w ++ c :: r) c = w.length := by
  induction w with
  | nil => simp [Lib.indexByte]
  | cons b l ih =>
    have hb : (b == c) = false := by simpa using h b (List.mem_cons_self ..)
    have := ih fun x hx => h x (List.mem_cons_of_mem _ hx)
    rw [List.cons_append, Lib.indexByte, hb, this]
    have h2 : ((l.length : Int) == -1) = false := by simp
    rw [h2]
    simp
theorem idx_miss (l : List UInt8) (c : UInt8) (h : ∀ x ∈ l, x ≠ c) : Lib.indexByte l c = -1 := by
  induction l with
  | nil => rfl
  | cons b r ih =>
    have hb : (b == c) = false := by simpa using h b (List.mem_cons_self ..)
    rw [Lib.indexByte, hb, ih fun x hx => h x (List.mem_cons_of_mem _ hx)]
    rfl
theorem first_of (l : List UInt8) (c : UInt8) : (∃ a b, l = a ++ c :: b ∧ ∀ x ∈ a, x ≠ c) ∨ ∀ x ∈ l, x ≠ c := by
  induction l with
  | nil => exact .inr (by simp)
  | cons y r ih =>
    by_cases hy : y = c
    · exact .inl ⟨[], r, by rw [hy]; rfl, by simp⟩
    · rcases ih with ⟨a, b, rfl, h⟩ | h
      · refine .inl ⟨y :: a, b, rfl, fun x hx => ?_⟩
        rcases List.mem_cons.1 hx with rfl | hx
        · exact hy
        · exact h x hx
      · refine .inr fun x hx => ?_
        rcases List.mem_cons.1 hx with rfl | hx
        · exact hy
        · exact h x hx
theorem cut_spec (s : List UInt8) : (∃ a b, s = a ++ 10 :: b ∧ (∀ x ∈ a, x ≠ 10) ∧ Lib.cut s [10] = (a, b, true)) ∨ ((∀ x ∈ s, x ≠ 10) ∧ Lib.cut s [10] = (s, [], false)) := by
  rcases first_of s 10 with ⟨a, b, rfl, h⟩ | h
  · refine .inl ⟨a, b, rfl, h, ?_⟩
    unfold Lib.cut
    rw [Lib.index_one, idx_hit a b 10 h, if_pos (by omega), Int.toNat_natCast]
    simp
  · refine .inr ⟨h, ?_⟩
    unfold Lib.cut
    rw [Lib.index_one, idx_miss s 10 h, if_neg (by omega)]
def wordsP (s : List UInt8) : List (List UInt8) := Lib.splitK [32] 0 (Lib.count s [32]) s
theorem splitK_join (r : List (List UInt8)) (w : List UInt8) (hw : ∀ c ∈ w, c ≠ 32) (hr : ∀ v ∈ r, ∀ c ∈ v, c ≠ 32) : Lib.splitK [32] 0 r.length (w ++ tailL r) = w :: r := by
  induction r generalizing w with
  | nil => simp [tailL, Lib.splitK]
  | cons v l ih =>
    have e : tailL (v :: l) = 32 :: (v ++ tailL l) := by simp [tailL]
    have h2 : (((w.length : Nat) : Int) == -1) = false := by simp
    rw [List.length_cons, Lib.splitK, e, Lib.index_one, idx_hit w _ 32 hw, h2]
    simp only [Bool.false_eq_true, if_false, Int.toNat_natCast, Nat.add_zero, List.take_left, List.length_singleton]
    rw [show (w ++ 32 :: (v ++ tailL l)).drop (w.length + 1) = v ++ tailL l by simp, ih v (hr v (List.mem_cons_self ..)) (fun x hx => hr x (List.mem_cons_of_mem _ hx))]
theorem count_tail (r : List (List UInt8)) (hr : ∀ v ∈ r, ∀ c ∈ v, c ≠ 32) : (tailL r).count 32 = r.length := by
  induction r with
  | nil => rfl
  | cons v l ih =>
    have e : tailL (v :: l) = 32 :: (v ++ tailL l) := by simp [tailL]
    have h0 : v.count 32 = 0 := List.count_eq_zero.2 fun h => hr v (List.mem_cons_self ..) 32 h rfl
    rw [e, List.count_cons_self, List.count_append, h0, ih (fun x hx => hr x (List.mem_cons_of_mem _ hx))]
    simp
theorem wordsP_join (w : List UInt8) (r : List (List UInt8)) (hw : ∀ c ∈ w, c ≠ 32) (hr : ∀ v ∈ r, ∀ c ∈ v, c ≠ 32) : wordsP (w ++ tailL r) = w :: r := by
  unfold wordsP
  have h0 : w.count 32 = 0 := List.count_eq_zero.2 fun h => hw 32 h rfl
  rw [Lib.count_one, List.count_append, h0, count_tail r hr, Nat.zero_add, splitK_join r w hw hr]
theorem wordsP_body (x : Stp) (h : isK x.kind) : wordsP (bodyL x) = wordT x.kind.toNat :: argsL x :=
  wordsP_join _ _ (fun c hc => (isC_ne (word_mem _ h c hc)).1) (fun w hw c hc => (isC_ne (args_mem x w hw c hc)).1)
theorem splitK_len (n : Nat) (l : List UInt8) : ∀ w ∈ Lib.splitK [32] 0 n l, w.length ≤ l.length := by
  induction n generalizing l with
  | zero => intro w hw; simp [Lib.splitK] at hw; rw [hw]; omega
  | succ n ih =>
    intro w hw
    rw [Lib.splitK] at hw
    split at hw
    · simp at hw; rw [hw]; omega
    · rcases List.mem_cons.1 hw with rfl | hw
      · rw [List.length_take]; omega
      · have := ih _ w hw; rw [List.length_drop] at this; omega
theorem wordsP_len (s : List UInt8) : ∀ w ∈ wordsP s, w.length ≤ s.length := splitK_len _ s
theorem wordsP_ne (s : List UInt8) : ∃ w r, wordsP s = w :: r := by
  unfold wordsP
  cases Lib.count s [32] with
  | zero => exact ⟨_, _, rfl⟩
  | succ n => rw [Lib.splitK]; split <;> exact ⟨_, _, rfl⟩
/-- what the program reads of the words, where the first is the word of the kind k -/
def progP (W : List (List UInt8)) (k : Nat) : Stp :=
  ⟨k, if 0 < numsT k then atoiV (at4 W 1) else 0, if 1 < numsT k then atoiV (at4 W 2) else 0, if 2 < numsT k then atoiV (at4 W 3) else 0, if textT k = true ∧ 1 + numsT k < W.length then unhexL (at4 W (1 + numsT k)) else []⟩
theorem progP_ok (W : List (List UInt8)) (k : Nat) (h : 1 ≤ k ∧ k < 14) : (progP W k).Ok := by
  refine ⟨by unfold isK progP; simp only; omega, ?_, ?_, ?_, fun g => if_neg (by simpa [progP] using g), fun g => if_neg (by simpa [progP] using g), fun g => if_neg (by simpa [progP] using g), fun g => ?_⟩
  · show _ ≤ (if _ then atoiV _ else 0) ∧ (if _ then atoiV _ else 0) ≤ _
    have := atoiV_range (at4 W 1); split <;> omega
  · show _ ≤ (if _ then atoiV _ else 0) ∧ (if _ then atoiV _ else 0) ≤ _
    have := atoiV_range (at4 W 2); split <;> omega
  · show _ ≤ (if _ then atoiV _ else 0) ∧ (if _ then atoiV _ else 0) ≤ _
    have := atoiV_range (at4 W 3); split <;> omega
  · refine if_neg fun h => ?_
    have : textT k = false := by simpa [progP] using g
    rw [this] at h; exact absurd h.1 (by simp)
theorem word_inj (k m : Nat) (hk : 1 ≤ k ∧ k < 14) (hm : 1 ≤ m ∧ m < 14) (h : wordT k = wordT m) : k = m := by
  have h1 := kind_word (k : Int) (by unfold isK; omega)
  have h2 := kind_word (m : Int) (by unfold isK; omega)
  rw [Int.toNat_natCast] at h1 h2
  rw [← h1, ← h2, h]
theorem args_len (x : Stp) : (argsL x).length = numsT x.kind.toNat + (if textT x.kind.toNat then 1 else 0) := by
  have hn : numsT x.kind.toNat ≤ 3 := nums_le _
  unfold argsL numsL
  rw [List.length_append, List.length_map, List.length_take]
  split <;> simp <;> omega
/-- of a step's own line the program reads the step -/
theorem progP_body (x : Stp) (h : x.Ok) : progP (wordT x.kind.toNat :: argsL x) x.kind.toNat = x := by
  have hl := args_len x
  obtain ⟨k, a, b, c, t⟩ := x
  obtain ⟨hk, ⟨ha1, ha2⟩, ⟨hb1, hb2⟩, ⟨hc1, hc2⟩, n0, n1, n2, nt⟩ := h
  simp only at *
  have na := atoiV_itoa a ha1 ha2
  have nb := atoiV_itoa b hb1 hb2
  have nc := atoiV_itoa c hc1 hc2
  have rt := unhex_hex t
  unfold progP
  rcases kinds k hk with rfl | rfl | rfl | rfl | rfl | rfl | rfl | rfl | rfl | rfl | rfl | rfl | rfl
  all_goals
    simp only [show ((1 : Int).toNat) = 1 from rfl, show ((2 : Int).toNat) = 2 from rfl, show ((3 : Int).toNat) = 3 from rfl, show ((4 : Int).toNat) = 4 from rfl, show ((5 : Int).toNat) = 5 from rfl, show ((6 : Int).toNat) = 6 from rfl, show ((7 : Int).toNat) = 7 from rfl, show ((8 : Int).toNat) = 8 from rfl, show ((9 : Int).toNat) = 9 from rfl, show ((10 : Int).toNat) = 10 from rfl, show ((11 : Int).toNat) = 11 from rfl, show ((12 : Int).toNat) = 12 from rfl, show ((13 : Int).toNat) = 13 from rfl] at *
    simp only [numsT, textT, argsL, numsL, at4, List.take, List.map, List.append, List.cons_append, List.nil_append, List.getD_cons_succ, List.getD_cons_zero] at *
    simp_all
/-- the program finds a step's line as the plain law does -/
theorem step_sees (s : List UInt8) (k : Nat) (hk : 1 ≤ k ∧ k < 14) (h0 : wordT k = at4 (wordsP s) 0) : (lineL (progP (wordsP s) k) == s ++ [10]) = stepB s := by
  cases hb : stepB s with
  | false =>
    have := stepB_false hb _ (progP_ok (wordsP s) k hk)
    simpa using this
  | true =>
    obtain ⟨ho, hl⟩ := stepB_true hb
    have he : s = bodyL (parseL s) := by
      rw [line_ok _ ho] at hl
      exact (List.append_cancel_right hl).symm
    have hW : wordsP s = wordT (parseL s).kind.toNat :: argsL (parseL s) := (congrArg wordsP he).trans (wordsP_body _ ho.kind)
    have hk2 : k = (parseL s).kind.toNat := word_inj k _ hk (by have := ho.kind; unfold isK at this; omega) (by rw [h0, hW]; rfl)
    have : progP (wordsP s) k = parseL s := by rw [hW, hk2]; exact progP_body _ ho
    rw [this, hl]
    simp
theorem step_none (s : List UInt8) (h : ∀ m, 1 ≤ m → m < 14 → wordT m ≠ at4 (wordsP s) 0) : stepB s = false := by
  cases hb : stepB s with
  | false => rfl
  | true =>
    obtain ⟨ho, hl⟩ := stepB_true hb
    have he : s = bodyL (parseL s) := by
      rw [line_ok _ ho] at hl
      exact (List.append_cancel_right hl).symm
    have hW : wordsP s = wordT (parseL s).kind.toNat :: argsL (parseL s) := (congrArg wordsP he).trans (wordsP_body _ ho.kind)
    have hk := ho.kind
    unfold isK at hk
    exact absurd (by rw [hW]; rfl) (h (parseL s).kind.toNat (by omega) (by omega))
theorem step_few (s : List UInt8) (k : Nat) (hk : 1 ≤ k ∧ k < 14) (h0 : wordT k = at4 (wordsP s) 0) (hn : (wordsP s).length < 1 + numsT k) : stepB s = false := by
  cases hb : stepB s with
  | false => rfl
  | true =>
    obtain ⟨ho, hl⟩ := stepB_true hb
    have he : s = bodyL (parseL s) := by
      rw [line_ok _ ho] at hl
      exact (List.append_cancel_right hl).symm
    have hW : wordsP s = wordT (parseL s).kind.toNat :: argsL (parseL s) := (congrArg wordsP he).trans (wordsP_body _ ho.kind)
    have hk2 : k = (parseL s).kind.toNat := word_inj k _ hk (by have := ho.kind; unfold isK at this; omega) (by rw [h0, hW]; rfl)
    have hl := args_len (parseL s)
    rw [hW, List.length_cons, hl, ← hk2] at hn
    omega
end Go.Proofs.YtdefipnmjfnpeaaDoor
