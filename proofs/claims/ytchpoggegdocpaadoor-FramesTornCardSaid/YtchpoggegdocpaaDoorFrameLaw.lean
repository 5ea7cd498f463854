/- frames, plain: what a frame is, what stands ahead of bytes, all frames from the front on -/
import Derived.Test.YtchpoggegdocpaaDoorShaLaw
import Derived.Test.YtchpoggegdocpaaDoorBits
namespace Go.Proofs.YtchpoggegdocpaaDoor
open Go.Spec
theorem beN_beL : ∀ (k n : Nat), n < 256 ^ k → beN (beL n k) = n
  | 0, n, h => by
    have : n = 0 := by simpa using h
    subst this; rfl
  | k + 1, n, h => by
    rw [beL, beN_snoc, beN_beL k (n / 256) (by rw [Nat.pow_succ] at h; omega), UInt8.toNat_ofNat_of_lt' (by have := Nat.mod_lt n (show 0 < 256 by omega); exact this)]
    omega
def markL (p : List UInt8) : List UInt8 := beL p.length 4 ++ (sumL (beL p.length 4 ++ p)).take 8
def frameL (p : List UInt8) : List UInt8 := markL p ++ p
theorem markL_len (p : List UInt8) : (markL p).length = 12 := by simp [markL, beL_len, sumL_len]
theorem frameL_len (p : List UInt8) : (frameL p).length = p.length + 12 := by simp [frameL, markL_len]; omega
theorem markL_take (p r : List UInt8) (h : p.length ≤ 65536) : beN ((markL p ++ r).take 4) = p.length := by
  have : (markL p ++ r).take 4 = beL p.length 4 := by
    unfold markL
    rw [List.append_assoc, List.take_append_of_le_length (by rw [beL_len]; omega), List.take_of_length_le (by rw [beL_len]; omega)]
  rw [this, beN_beL 4 _ (by omega)]
/-- the payload of the frame that stands ahead, and what is behind it -/
def cutF (l : List UInt8) : Option (List UInt8 × List UInt8) :=
  if l.length < 12 then none
  else if 65536 < beN (l.take 4) ∨ l.length - 12 < beN (l.take 4) then none
  else if markL ((l.drop 12).take (beN (l.take 4))) = l.take 12 then some ((l.drop 12).take (beN (l.take 4)), l.drop (12 + beN (l.take 4))) else none
theorem cutF_frame (p r : List UInt8) (h : p.length ≤ 65536) : cutF (frameL p ++ r) = some (p, r) := by
  have hl : (frameL p ++ r).length = p.length + 12 + r.length := by rw [List.length_append, frameL_len]
  have hn : beN ((frameL p ++ r).take 4) = p.length := by
    unfold frameL; rw [List.append_assoc]; exact markL_take p _ h
  have hd : (frameL p ++ r).drop 12 = p ++ r := by
    unfold frameL; rw [List.append_assoc, List.drop_left' (markL_len p)]
  have ht : (frameL p ++ r).take 12 = markL p := by
    unfold frameL; rw [List.append_assoc, List.take_left' (markL_len p)]
  unfold cutF
  rw [hn, hd, ht, if_neg (by omega), if_neg (by omega), List.take_left' rfl, if_pos rfl]
  congr 2
  rw [← List.drop_drop, hd, List.drop_left' rfl]
theorem cutF_some {l p r : List UInt8} (h : cutF l = some (p, r)) : l = frameL p ++ r ∧ p.length ≤ 65536 := by
  unfold cutF at h
  split at h
  · cases h
  · rename_i h12
    split at h
    · cases h
    · rename_i hn
      split at h
      · rename_i hm
        injection h with h
        injection h with h1 h2
        have hpl : p.length = beN (l.take 4) := by rw [← h1, List.length_take, List.length_drop]; omega
        refine ⟨?_, by omega⟩
        unfold frameL
        rw [← h1, hm, ← h2, List.append_assoc, ← List.drop_drop, List.take_append_drop, List.take_append_drop]
      · cases h
theorem cutF_len {l p r : List UInt8} (h : cutF l = some (p, r)) : l.length = p.length + 12 + r.length ∧ p.length ≤ 65536 := by
  obtain ⟨h1, h2⟩ := cutF_some h
  exact ⟨by rw [h1, List.length_append, frameL_len], h2⟩
/-- all payloads from the front on, and what is left -/
def wholeF : Nat → List UInt8 → List (List UInt8) × List UInt8
  | 0, l => ([], l)
  | f + 1, l => match cutF l with
    | none => ([], l)
    | some (p, r) => (p :: (wholeF f r).1, (wholeF f r).2)
def wholeL (l : List UInt8) : List (List UInt8) × List UInt8 := wholeF l.length l
theorem wholeF_eq : ∀ (f g : Nat) (l : List UInt8), l.length ≤ f → l.length ≤ g → wholeF f l = wholeF g l
  | 0, 0, _, _, _ => rfl
  | 0, g + 1, l, h, _ => by
    have : cutF l = none := by unfold cutF; rw [if_pos (by omega)]
    simp [wholeF, this]
  | f + 1, 0, l, _, h => by
    have : cutF l = none := by unfold cutF; rw [if_pos (by omega)]
    simp [wholeF, this]
  | f + 1, g + 1, l, hf, hg => by
    cases hc : cutF l with
    | none => simp [wholeF, hc]
    | some pr =>
      obtain ⟨p, r⟩ := pr
      have := (cutF_len hc).1
      simp only [wholeF, hc]
      rw [wholeF_eq f g r (by omega) (by omega)]
theorem wholeL_none {l : List UInt8} (h : cutF l = none) : wholeL l = ([], l) := by
  unfold wholeL
  cases hl : l.length with
  | zero => rfl
  | succ f => simp [wholeF, h]
theorem wholeL_some {l p r : List UInt8} (h : cutF l = some (p, r)) : wholeL l = (p :: (wholeL r).1, (wholeL r).2) := by
  have := (cutF_len h).1
  unfold wholeL
  obtain ⟨f, hf⟩ : ∃ f, l.length = f + 1 := ⟨l.length - 1, by omega⟩
  rw [hf]
  simp only [wholeF, h]
  rw [wholeF_eq f r.length r (by omega) (Nat.le_refl _)]
/-- frames, one behind the other -/
def framesL (ps : List (List UInt8)) : List UInt8 := ps.flatMap frameL
theorem framesL_nil : framesL [] = [] := rfl
theorem framesL_cons (p : List UInt8) (ps : List (List UInt8)) : framesL (p :: ps) = frameL p ++ framesL ps := by simp [framesL]
theorem framesL_snoc (p : List UInt8) (ps : List (List UInt8)) : framesL (ps ++ [p]) = framesL ps ++ frameL p := by simp [framesL]
theorem whole_frames : ∀ (ps : List (List UInt8)) (r : List UInt8), (∀ p ∈ ps, p.length ≤ 65536) → wholeL (framesL ps ++ r) = (ps ++ (wholeL r).1, (wholeL r).2)
  | [], r, _ => by simp [framesL_nil]
  | p :: ps, r, h => by
    rw [framesL_cons, List.append_assoc, wholeL_some (cutF_frame p _ (h p List.mem_cons_self)), whole_frames ps r (fun q hq => h q (List.mem_cons_of_mem _ hq))]
    rfl
theorem cutF_short {p r : List UInt8} (k : Nat) (h : p.length ≤ 65536) (hk : k < (frameL p).length) : cutF ((frameL p ++ r).take k) = none := by
  rw [frameL_len] at hk
  have hl : ((frameL p ++ r).take k).length = k := by rw [List.length_take, List.length_append, frameL_len]; omega
  unfold cutF
  by_cases h12 : k < 12
  · rw [if_pos (by omega)]
  · have hn : beN (((frameL p ++ r).take k).take 4) = p.length := by
      rw [List.take_take, Nat.min_eq_left (by omega)]
      unfold frameL; rw [List.append_assoc]; exact markL_take p _ h
    rw [if_neg (by omega), hn, if_pos (by omega)]
theorem cutF_zeros (z : Nat) : cutF (List.replicate z 0) = none := by
  unfold cutF
  by_cases h : z < 12
  · rw [if_pos (by simpa using h)]
  · have e4 : beN ((List.replicate z (0 : UInt8)).take 4) = 0 := by
      rw [List.take_replicate, Nat.min_eq_left (by omega)]; decide
    have e12 : (List.replicate z (0 : UInt8)).take 12 = List.replicate 12 0 := by rw [List.take_replicate, Nat.min_eq_left (by omega)]
    rw [if_neg (by simpa using h), e4, if_neg (by simp), List.take_zero, e12, if_neg (by decide +kernel)]
/-- where each ends -/
def endsL (ps : List (List UInt8)) (k : Nat) : Nat := (framesL (ps.take k)).length
theorem ends_zero (ps : List (List UInt8)) : endsL ps 0 = 0 := rfl
theorem ends_next (ps : List (List UInt8)) (k : Nat) (h : k < ps.length) : endsL ps (k + 1) = endsL ps k + (frameL ps[k]).length := by
  unfold endsL
  rw [List.take_succ_eq_append_getElem h, framesL_snoc, List.length_append]
theorem ends_all (ps : List (List UInt8)) : endsL ps ps.length = (framesL ps).length := by unfold endsL; rw [List.take_length]
theorem frames_split (ps : List (List UInt8)) (k : Nat) : framesL ps = framesL (ps.take k) ++ framesL (ps.drop k) := by
  unfold framesL
  rw [← List.flatMap_append, List.take_append_drop]
theorem whole_torn (ps : List (List UInt8)) (h : ∀ p ∈ ps, p.length ≤ 65536) (k m : Nat) (hk : k ≤ (framesL ps).length) (hm : m ≤ ps.length) (h1 : endsL ps m ≤ k) (h2 : ∀ _ : m < ps.length, k < endsL ps (m + 1)) :
    (wholeL ((framesL ps).take k)).1 = ps.take m ∧ (wholeL ((framesL ps).take k)).2.length + endsL ps m = k := by
  have hs := frames_split ps m
  have hl : (framesL (ps.take m)).length = endsL ps m := rfl
  have he : (framesL ps).take k = framesL (ps.take m) ++ (framesL (ps.drop m)).take (k - endsL ps m) := by
    rw [hs, List.take_append, hl, List.take_of_length_le (by omega)]
  have htail : cutF ((framesL (ps.drop m)).take (k - endsL ps m)) = none := by
    by_cases hmp : m < ps.length
    · have h3 := h2 hmp
      rw [ends_next ps m hmp] at h3
      rw [List.drop_eq_getElem_cons hmp, framesL_cons]
      exact cutF_short _ (h _ (List.getElem_mem hmp)) (by omega)
    · rw [List.drop_of_length_le (by omega), framesL_nil, List.take_nil]; rfl
  rw [he, whole_frames _ _ (fun p hp => h p (List.mem_of_mem_take hp)), wholeL_none htail]
  refine ⟨by simp, ?_⟩
  show ((framesL (ps.drop m)).take (k - endsL ps m)).length + _ = k
  rw [List.length_take]
  have : (framesL ps).length = endsL ps m + (framesL (ps.drop m)).length := by
    have := congrArg List.length hs
    rw [List.length_append, hl] at this
    exact this
  omega
end Go.Proofs.YtchpoggegdocpaaDoor
