import Derived.Test.YtjpnlnbpaecciaaRef03c
set_option maxRecDepth 100000
namespace Go.Spec
open Go.RowKit
theorem chunks_flat : ∀ (hs : List (List UInt8)) (s : List UInt8), (∀ x ∈ hs, x.length = 32) → ∀ n, n ≤ hs.length → Go.Proofs.Ytjpnlnbpaecciaa.chunks (hs.flatten ++ s) n = hs.take n
  | hs, s, h, 0, _ => rfl
  | hs, s, h, n + 1, hn => by
    have htk : hs.take (n + 1) = hs.take n ++ [hs[n]] := List.take_succ_eq_append_getElem (by omega)
    rw [Go.Proofs.Ytjpnlnbpaecciaa.chunks, chunks_flat hs s h n (by omega), htk]
    congr 2
    have hsplit : hs = hs.take n ++ (hs[n] :: hs.drop (n + 1)) := by rw [← List.drop_eq_getElem_cons (by omega)]; simp
    have hfl : hs.flatten = (hs.take n).flatten ++ (hs[n] ++ (hs.drop (n + 1)).flatten) := by conv => lhs; rw [hsplit]; rw [List.flatten_append, List.flatten_cons]
    have hlen : (hs.take n).flatten.length = n * 32 := by rw [flatten_len (fun x hx => h x (List.mem_of_mem_take hx)), List.length_take]; omega
    have h32 : (hs[n]).length = 32 := h _ (List.getElem_mem (by omega))
    rw [hfl]
    simp only [List.append_assoc]
    rw [List.drop_append_of_le_length (by omega), List.drop_eq_nil_of_le (by omega), List.nil_append, List.take_append_of_le_length (by omega), List.take_of_length_le (by omega)]
theorem rd_allbig : ∀ (l : List UInt8) (m : Nat), (∀ c ∈ l, 128 ≤ c.toNat) → rd m l = none
  | [], _, _ => rfl
  | c :: l, m, h => by
    have hc := h c List.mem_cons_self
    rw [rd]
    split
    · rfl
    · rw [if_neg (by omega)]
      exact rd_allbig l _ (fun x hx => h x (List.mem_cons_of_mem _ hx))
theorem rd_cut (n : Nat) (hn : n < 18446744073709551616) (r : List UInt8) (k : Nat) : (k < (numL n).length ∧ rd 0 ((numL n ++ r).take k) = none) ∨ (∃ j, k = (numL n).length + j ∧ rd 0 ((numL n ++ r).take k) = some (n, r.take j)) := by
  have hlen : (numL n).length = (hiN (n / 128)).length + 1 := by simp [numL]
  rcases Nat.lt_or_ge k (numL n).length with h | h
  · left
    refine ⟨h, rd_allbig _ _ fun c hc => ?_⟩
    rw [List.take_append_of_le_length (by omega), numL, List.take_append_of_le_length (by omega)] at hc
    exact hiN_big _ (n / 128) (Nat.le_refl _) c (List.mem_of_mem_take hc)
  · right
    refine ⟨k - (numL n).length, by omega, ?_⟩
    rw [List.take_append, List.take_of_length_le (by omega)]
    exact rd_num n hn _
end Go.Spec
namespace Go.Proofs.Ytjpnlnbpaecciaa
open Go.RowKit Go.Spec
theorem SlAt.nil (w : World) : SlAt w 32 (.slice none 0 0) (hcs []) := ⟨none, 0, rfl, Nat.le_refl _, fun _ h => by simp [hcs] at h, fun i cs h => by simp [hcs] at h⟩
def rdN (l : List UInt8) : Nat := match rd 0 l with | some (n, _) => n | none => 0
def rdR (l : List UInt8) : List UInt8 := match rd 0 l with | some (_, r) => r | none => []
def rdB (l : List UInt8) : Bool := (rd 0 l).isSome
theorem rdV_gen (l : List UInt8) : rdV (rd 0 l) = .tuple #[.int .u64 (rdN l), sv (rdR l), .bool (rdB l)] := by
  unfold rdN rdR rdB
  cases rd 0 l <;> rfl
theorem read_gen (l : List UInt8) (w : World) (hn : l.length ≤ 9223372036854775807) :
    Calls Try.prog 76 #[sv l] w fun e w' => e = .returned (.tuple #[.int .u64 (rdN l), sv (rdR l), .bool (rdB l)]) ∧ Below w.heap.size w w' :=
  (read_any l w hn).mono fun _ _ ⟨a, b⟩ => ⟨by rw [a, rdV_gen], b⟩
def cuT (l : List UInt8) : List UInt8 := match cutL l with | some (t, _) => t | none => []
def cuR (l : List UInt8) : List UInt8 := match cutL l with | some (_, r) => r | none => []
def cuB (l : List UInt8) : Bool := (cutL l).isSome
theorem cutV_gen (l : List UInt8) : cutV (cutL l) = .tuple #[sv (cuT l), sv (cuR l), .bool (cuB l)] := by
  unfold cuT cuR cuB
  cases cutL l <;> rfl
theorem cut_gen (l : List UInt8) (w : World) (hn : l.length ≤ 9223372036854775807) :
    Calls Try.prog 71 #[sv l] w fun e w' => e = .returned (.tuple #[sv (cuT l), sv (cuR l), .bool (cuB l)]) ∧ Below w.heap.size w w' :=
  (cut_any l w hn).mono fun _ _ ⟨a, b⟩ => ⟨by rw [a, cutV_gen], b⟩
def unT (l : List UInt8) : List UInt8 := if l.length < 32 then zero32 else l.take 32
def unR (l : List UInt8) : List UInt8 := if l.length < 32 then [] else l.drop 32
def unB (l : List UInt8) : Bool := decide (32 ≤ l.length)
theorem unT_len (l : List UInt8) : (unT l).length = 32 := by
  unfold unT
  split
  · rfl
  · simp; omega
theorem unhash_gen (l : List UInt8) (w : World) (hn : l.length ≤ 9223372036854775807) :
    Calls Try.prog 77 #[sv l] w fun e w' => e = .returned (.tuple #[hv (unT l), sv (unR l), .bool (unB l)]) ∧ Below w.heap.size w w' := by
  unfold unT unR unB
  by_cases h : l.length < 32
  · rw [if_pos h, if_pos h, show decide (32 ≤ l.length) = false by simp; omega]
    exact unhash_no l w h
  · rw [if_neg h, if_neg h, show decide (32 ≤ l.length) = true by simp; omega]
    exact unhash_yes l w (by omega) hn
def usX (l : List UInt8) : List (List UInt8) := match unhashesL l with | some (x, _) => x | none => []
def usR (l : List UInt8) : List UInt8 := match unhashesL l with | some (_, r) => r | none => []
def usB (l : List UInt8) : Bool := (unhashesL l).isSome
theorem us_32 (l : List UInt8) : ∀ x ∈ usX l, x.length = 32 := by
  unfold usX
  cases h : unhashesL l with
  | none => intro x hx; simp at hx
  | some y =>
    unfold unhashesL at h
    split at h
    · cases h
    · rename_i n r hr
      split at h
      · cases h
      · injection h with h
        subst h
        exact chunks_32 r n (by omega)
theorem us_le (l : List UInt8) : (usX l).length ≤ 64 := by
  unfold usX
  cases h : unhashesL l with
  | none => simp
  | some y =>
    unfold unhashesL at h
    split at h
    · cases h
    · split at h
      · cases h
      · injection h with h
        subst h
        simp only [chunks_length]; omega
theorem uh_gen {l : List UInt8} {e : Ending} {w w' : World} (h : UH l e w w') : ∃ v, e = .returned (.tuple #[v, sv (usR l), .bool (usB l)]) ∧ SlAt w' 32 v (hcs (usX l)) ∧ w'.ownsRow w.heap.size 34 32 v (usX l).length (hflat (usX l)) := by
  have h32 := us_32 l
  unfold usR usB usX at *
  cases hu : unhashesL l with
  | none =>
    refine ⟨.slice none 0 0, h.no hu, SlAt.nil _, World.ownsRow_nil _ _ _ _⟩
  | some y =>
    obtain ⟨hs, r⟩ := y
    rw [hu] at h32
    obtain ⟨v, hv, hown⟩ := h.yes hs r hu
    exact ⟨v, hv, SlAt.of_owns (size := 32) hown h32, hown⟩
/-- what Unhashes answers, whatever it is given -/
structure UG (l : List UInt8) (v : Value) (w w' : World) : Prop where
  at_ : SlAt w' 32 v (hcs (usX l))
  below : Below w.heap.size w w'
theorem unhashes_gen (l : List UInt8) (w : World) (hn : l.length ≤ 9223372036854775807) :
    Calls Try.prog 92 #[sv l] w fun e w' => ∃ a cap, e = .returned (.tuple #[.slice a (usX l).length cap, sv (usR l), .bool (usB l)]) ∧ UG l (.slice a (usX l).length cap) w w' :=
  (unhashes_any l w hn).mono fun _ _ h => by
    obtain ⟨v, hv, hat, _⟩ := uh_gen h
    obtain ⟨a, cap, rfl, _⟩ := hat.formH
    exact ⟨a, cap, hv, hat, h.below⟩
theorem rread_gen (l : List UInt8) (w : World) (hn : l.length ≤ 9223372036854775807) :
    Calls Try.prog 73 #[sv l] w fun e w' => e = .returned (.tuple #[.int .u64 (rdN l), sv (rdR l), .bool (rdB l)]) ∧ Below w.heap.size w w' :=
  (rread_any l w hn).mono fun _ _ ⟨a, b⟩ => ⟨by rw [a, rdV_gen], b⟩
theorem rcut_gen (l : List UInt8) (w : World) (hn : l.length ≤ 9223372036854775807) :
    Calls Try.prog 74 #[sv l] w fun e w' => e = .returned (.tuple #[sv (cuT l), sv (cuR l), .bool (cuB l)]) ∧ Below w.heap.size w w' :=
  (rcut_any l w hn).mono fun _ _ ⟨a, b⟩ => ⟨by rw [a, cutV_gen], b⟩
theorem runhash_gen (l : List UInt8) (w : World) (hn : l.length ≤ 9223372036854775807) :
    Calls Try.prog 78 #[sv l] w fun e w' => e = .returned (.tuple #[hv (unT l), sv (unR l), .bool (unB l)]) ∧ Below w.heap.size w w' := by
  unfold unT unR unB
  by_cases h : l.length < 32
  · rw [if_pos h, if_pos h, show decide (32 ≤ l.length) = false by simp; omega]
    exact runhash_no l w h
  · rw [if_neg h, if_neg h, show decide (32 ≤ l.length) = true by simp; omega]
    exact runhash_yes l w (by omega) hn
theorem runhashes_gen (l : List UInt8) (w : World) (hn : l.length ≤ 9223372036854775807) :
    Calls Try.prog 94 #[sv l] w fun e w' => ∃ a cap, e = .returned (.tuple #[.slice a (usX l).length cap, sv (usR l), .bool (usB l)]) ∧ UG l (.slice a (usX l).length cap) w w' :=
  (runhashes_any l w hn).mono fun _ _ h => by
    obtain ⟨v, hv, hat, _⟩ := uh_gen h
    obtain ⟨a, cap, rfl, _⟩ := hat.formH
    exact ⟨a, cap, hv, hat, h.below⟩
theorem cutL_text (s r : List UInt8) (h : s.length < 18446744073709551616) : cutL (numL s.length ++ s ++ r) = some (s, r) := by
  rw [cutL, List.append_assoc, rd_num _ h]
  simp
theorem unhashesL_hashes (hs : List (List UInt8)) (s : List UInt8) (h : ∀ x ∈ hs, x.length = 32) (hl : hs.length ≤ 64) : unhashesL (hashesL hs ++ s) = some (hs, s) := by
  have hfl := flatten_len h
  rw [unhashesL, hashesL, if_neg (by omega), List.append_assoc, rd_num _ (by omega)]
  simp only
  rw [if_neg (by rw [List.length_append, hfl]; omega), chunks_flat hs s h _ (Nat.le_refl _), List.take_length]
  congr 2
  rw [List.drop_append_of_le_length (by omega), List.drop_eq_nil_of_le (by omega), List.nil_append]
theorem cut_yes (t s r : List UInt8) (w : World) (ht : t = numL s.length ++ s ++ r) (h : s.length < 18446744073709551616) (hn : t.length ≤ 9223372036854775807) :
    Calls Try.prog 71 #[sv t] w fun e w' => e = .returned (.tuple #[sv s, sv r, .bool true]) ∧ Below w.heap.size w w' :=
  (cut_any t w hn).mono fun _ _ ⟨a, b⟩ => ⟨by rw [a, ht, cutL_text s r h]; rfl, b⟩
theorem unhashes_yes (t : List UInt8) (hs : List (List UInt8)) (s : List UInt8) (w : World) (ht : t = hashesL hs ++ s) (h : ∀ x ∈ hs, x.length = 32) (hl : hs.length ≤ 64) (hn : t.length ≤ 9223372036854775807) :
    Calls Try.prog 92 #[sv t] w fun e w' => ∃ a cap, e = .returned (.tuple #[.slice a hs.length cap, sv s, .bool true]) ∧ SlAt w' 32 (.slice a hs.length cap) (hcs hs) ∧ Below w.heap.size w w' :=
  (unhashes_gen t w hn).mono fun _ _ ⟨a, cap, he, hg⟩ => by
    have h1 : unhashesL t = some (hs, s) := by rw [ht, unhashesL_hashes hs s h hl]
    have h2 : usX t = hs := by rw [usX, h1]
    have h3 : usR t = s := by rw [usR, h1]
    have h4 : usB t = true := by rw [usB, h1]; rfl
    have hat := hg.at_
    rw [h2] at hat he
    rw [h3, h4] at he
    exact ⟨a, cap, he, hat, hg.below⟩
theorem cutL_cut (s : List UInt8) (h : s.length < 18446744073709551616) (k : Nat) (hk : k < (numL s.length ++ s).length) : cutL ((numL s.length ++ s).take k) = none := by
  rw [List.length_append] at hk
  rcases rd_cut s.length h s k with ⟨h1, h2⟩ | ⟨j, h1, h2⟩
  · rw [cutL, h2]
  · rw [cutL, h2]
    simp only
    rw [if_pos (by rw [List.length_take]; omega)]
theorem unhashesL_cut (hs : List (List UInt8)) (h : ∀ x ∈ hs, x.length = 32) (hl : hs.length ≤ 64) (k : Nat) (hk : k < (hashesL hs).length) : unhashesL ((hashesL hs).take k) = none := by
  have hfl := flatten_len h
  rw [hashesL, if_neg (by omega)] at hk ⊢
  rw [List.length_append, hfl] at hk
  rcases rd_cut hs.length (by omega) hs.flatten k with ⟨h1, h2⟩ | ⟨j, h1, h2⟩
  · rw [unhashesL, h2]
  · rw [unhashesL, h2]
    simp only
    rw [if_pos (by rw [List.length_take, hfl]; omega)]
theorem cut_none (t : List UInt8) (w : World) (ht : cutL t = none) (hn : t.length ≤ 9223372036854775807) :
    Calls Try.prog 71 #[sv t] w fun e w' => e = .returned (.tuple #[sv [], sv [], .bool false]) ∧ Below w.heap.size w w' :=
  (cut_any t w hn).mono fun _ _ ⟨a, b⟩ => ⟨by rw [a, ht]; rfl, b⟩
theorem unhashes_none (t : List UInt8) (w : World) (ht : unhashesL t = none) (hn : t.length ≤ 9223372036854775807) :
    Calls Try.prog 92 #[sv t] w fun e w' => e = .returned (.tuple #[.slice none 0 0, sv [], .bool false]) ∧ Below w.heap.size w w' :=
  (unhashes_any t w hn).mono fun _ _ h => ⟨h.no ht, h.below⟩
theorem hashesL_pos (hs : List (List UInt8)) (hl : hs.length ≤ 64) : 0 < (hashesL hs).length := by
  rw [hashesL, if_neg (by omega), List.length_append]
  have := numL_pos hs.length
  omega
theorem form_rd (l : List UInt8) : (rdB l = true → (numL (rdN l) ++ rdR l == l) = true ∧ rdN l < 18446744073709551616) ∧ (rdB l = false → rdN l = 0 ∧ rdR l = []) := by
  unfold rdB rdN rdR
  cases h : rd 0 l with
  | none => simp
  | some x =>
    obtain ⟨n, r⟩ := x
    obtain ⟨h1, h2⟩ := (rd_iff l n r).1 h
    simp only [Option.isSome_some, forall_const, Bool.true_eq_false, false_imp_iff, and_true, beq_iff_eq]
    exact ⟨h2.symm, h1⟩
theorem form_cut (l : List UInt8) : (cuB l = true → (numL (cuT l).length ++ (cuT l ++ cuR l) == l) = true ∧ (cuT l).length ≤ l.length) ∧ (cuB l = false → cuT l = [] ∧ cuR l = []) := by
  unfold cuB cuT cuR cutL
  cases h : rd 0 l with
  | none => simp
  | some x =>
    obtain ⟨n, r⟩ := x
    obtain ⟨h1, h2⟩ := (rd_iff l n r).1 h
    simp only
    by_cases hlt : r.length < n
    · simp [hlt]
    · simp only [hlt, if_false, Option.isSome_some, forall_const, Bool.true_eq_false, false_imp_iff, and_true, beq_iff_eq]
      have : (r.take n).length = n := by simp; omega
      refine ⟨?_, ?_⟩
      · rw [this, List.take_append_drop]; exact h2.symm
      · rw [this, h2, List.length_append]; omega
theorem form_un (l : List UInt8) : (unB l = true → (unT l ++ unR l == l) = true) ∧ (unB l = false → unT l = zero32 ∧ unR l = []) := by
  unfold unB unT unR
  by_cases h : l.length < 32
  · simp [h, show ¬ 32 ≤ l.length by omega]
  · simp [h, show 32 ≤ l.length by omega]
theorem chunks_back (r : List UInt8) : ∀ n, n * 32 ≤ r.length → (chunks r n).flatten ++ r.drop (n * 32) = r
  | 0, _ => by simp [chunks]
  | n + 1, h => by
    have ih := chunks_back r n (by omega)
    rw [chunks, List.flatten_append, List.flatten_singleton, List.append_assoc]
    conv => rhs; rw [← ih]
    congr 1
    rw [show (n + 1) * 32 = n * 32 + 32 by omega, ← List.drop_drop, List.take_append_drop]
theorem form_us (l : List UInt8) : (usB l = true → (hashesL (usX l) ++ usR l == l) = true) ∧ (usB l = false → usX l = [] ∧ usR l = []) := by
  unfold usB usX usR unhashesL
  cases h : rd 0 l with
  | none => simp
  | some x =>
    obtain ⟨n, r⟩ := x
    obtain ⟨h1, h2⟩ := (rd_iff l n r).1 h
    simp only
    by_cases hlt : 64 < n ∨ r.length < n * 32
    · simp [hlt]
    · simp only [hlt, if_false, Option.isSome_some, forall_const, Bool.true_eq_false, false_imp_iff, and_true, beq_iff_eq]
      rw [hashesL, chunks_length, if_neg (by omega), List.append_assoc, chunks_back r n (by omega)]
      exact h2.symm
end Go.Proofs.Ytjpnlnbpaecciaa
