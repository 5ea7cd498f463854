/- Heads out of bytes: plain laws -/
import Derived.Test.YtjpnlnbpaecciaaGKnown
import Derived.Test.YtjpnlnbpaecciaaCount
namespace Go.Proofs.Ytjpnlnbpaecciaa
open Go.RowKit Go.Spec
theorem rdR_le (l : List UInt8) : (rdR l).length ≤ l.length := by
  unfold rdR
  split
  · rename_i n r h
    have := (rd_some l 0 n r (by omega) h).2
    omega
  · simp
theorem rdN_lt (l : List UInt8) : rdN l < 18446744073709551616 := by
  unfold rdN
  split
  · rename_i n r h
    exact (rd_some l 0 n r (by omega) h).1
  · omega
theorem unR_le (l : List UInt8) : (unR l).length ≤ l.length := by
  unfold unR; split <;> simp
theorem cuR_le (l : List UInt8) : (cuR l).length ≤ l.length := by
  unfold cuR
  split
  · rename_i t r h
    unfold cutL at h
    split at h
    · cases h
    · rename_i n r' h1
      have := (rd_some l 0 n r' (by omega) h1).2
      split at h
      · cases h
      · injection h with h; injection h with h2 h3
        rw [← h3, List.length_drop]; omega
  · simp
theorem cuT_le (l : List UInt8) : (cuT l).length ≤ l.length := by
  unfold cuT
  split
  · rename_i t r h
    unfold cutL at h
    split at h
    · cases h
    · rename_i n r' h1
      have := (rd_some l 0 n r' (by omega) h1).2
      split at h
      · cases h
      · injection h with h; injection h with h2 h3
        rw [← h2, List.length_take]; omega
  · simp
theorem usR_le (l : List UInt8) : (usR l).length ≤ l.length := by
  unfold usR
  split
  · rename_i t r h
    unfold unhashesL at h
    split at h
    · cases h
    · rename_i n r' h1
      have := (rd_some l 0 n r' (by omega) h1).2
      split at h
      · cases h
      · injection h with h; injection h with h2 h3
        rw [← h3, List.length_drop]; omega
  · simp
theorem countR_le (l : List UInt8) (c : UInt8) : (countR l c).length ≤ l.length := by
  unfold countR
  split
  · rename_i r h
    have := rdR_le r
    rw [behind_some h]; simp; omega
  · simp
theorem countN_lt (l : List UInt8) (c : UInt8) : countN l c < 18446744073709551616 := by
  unfold countN
  split
  · exact rdN_lt _
  · omega
/-- may a head be read? -/
def hdB (l : List UInt8) : Bool := rdB l && unB (rdR l) && decide (rdN l ≤ 4096)
def hdV (l : List UInt8) : Hd := ⟨rdN l, unT (rdR l)⟩
/-- so many heads, and what is behind -/
def hdsP : Nat → List UInt8 → Option (List Hd × List UInt8)
  | 0, l => some ([], l)
  | n + 1, l => if hdB l then (hdsP n (unR (rdR l))).map (fun x => (hdV l :: x.1, x.2)) else none
def getKL (l : List UInt8) : Option (List Hd) :=
  if countB l 68 = false ∨ 64 < countN l 68 then none else
    match hdsP (countN l 68) (countR l 68) with
    | some (hs, []) => some hs
    | _ => none
theorem hdsP_step {n k : Nat} {l s : List UInt8} {out : List Hd} (h : hdsP n l = (hdsP (n - k) s).map (fun x => (out ++ x.1, x.2))) (hk : k < n) (hb : hdB s = true) :
    hdsP n l = (hdsP (n - (k + 1)) (unR (rdR s))).map (fun x => ((out ++ [hdV s]) ++ x.1, x.2)) := by
  obtain ⟨m, hm⟩ : ∃ m, n - k = m + 1 := ⟨n - k - 1, by omega⟩
  rw [h, hm, hdsP, if_pos hb, show n - (k + 1) = m by omega]
  cases hdsP m (unR (rdR s)) <;> simp
theorem hdsP_stop {n k : Nat} {l s : List UInt8} {out : List Hd} (h : hdsP n l = (hdsP (n - k) s).map (fun x => (out ++ x.1, x.2))) (hk : k < n) (hb : hdB s = false) : hdsP n l = none := by
  obtain ⟨m, hm⟩ : ∃ m, n - k = m + 1 := ⟨n - k - 1, by omega⟩
  rw [h, hm, hdsP, if_neg (by rw [hb]; simp)]; rfl
theorem hdsP_len : ∀ (n : Nat) (l : List UInt8) (hs : List Hd) (r : List UInt8), hdsP n l = some (hs, r) → hs.length = n
  | 0, l, hs, r, h => by simp [hdsP] at h; rw [h.1]; rfl
  | n + 1, l, hs, r, h => by
    rw [hdsP] at h
    split at h
    · cases hq : hdsP n (unR (rdR l)) with
      | none => rw [hq] at h; cases h
      | some x =>
        rw [hq] at h
        simp only [Option.map_some, Option.some.injEq, Prod.mk.injEq] at h
        rw [← h.1, List.length_cons, hdsP_len n _ x.1 x.2 hq]
    · cases h
/-- what is read of heads' bytes -/
theorem hdsP_put : ∀ (hs : List Hd) (r : List UInt8), (∀ h ∈ hs, h.r.length = 32) → hs.all mayB = true → hdsP hs.length ((hs.map hdT).flatten ++ r) = some (hs, r)
  | [], r, _, _ => rfl
  | h :: hs, r, h32, hv => by
    simp only [List.all_cons, Bool.and_eq_true] at hv
    have hr := h32 h List.mem_cons_self
    obtain ⟨hz0, hz1⟩ : 0 ≤ h.z ∧ h.z ≤ 4096 := by simpa [mayB] using hv.1
    have e : ((h :: hs).map hdT).flatten ++ r = numL h.z.toNat ++ (h.r ++ ((hs.map hdT).flatten ++ r)) := by simp [hdT]
    have h1 : rd 0 (((h :: hs).map hdT).flatten ++ r) = some (h.z.toNat, h.r ++ ((hs.map hdT).flatten ++ r)) := by rw [e]; exact rd_num _ (by omega) _
    have e1 : rdB (((h :: hs).map hdT).flatten ++ r) = true := by rw [rdB, h1]; rfl
    have e2 : rdN (((h :: hs).map hdT).flatten ++ r) = h.z.toNat := by rw [rdN, h1]
    have e3 : rdR (((h :: hs).map hdT).flatten ++ r) = h.r ++ ((hs.map hdT).flatten ++ r) := by rw [rdR, h1]
    have e4 : unB (h.r ++ ((hs.map hdT).flatten ++ r)) = true := by simp [unB]; omega
    have e5 : unT (h.r ++ ((hs.map hdT).flatten ++ r)) = h.r := by
      rw [unT, if_neg (by simp; omega), ← hr, List.take_left]
    have e6 : unR (h.r ++ ((hs.map hdT).flatten ++ r)) = (hs.map hdT).flatten ++ r := by
      rw [unR, if_neg (by simp; omega), ← hr, List.drop_left]
    rw [List.length_cons, hdsP, if_pos (by rw [hdB, e1, e2, e3, e4]; simp; omega), e3, e6, hdsP_put hs r (fun x hx => h32 x (List.mem_cons_of_mem _ hx)) hv.2]
    simp only [Option.map_some, hdV, e2, e3, e5]
    congr 2
    rw [List.cons.injEq]
    refine ⟨?_, rfl⟩
    obtain ⟨z, r'⟩ := h
    simp only at hz0 ⊢
    rw [Int.toNat_of_nonneg hz0]
theorem getKL_put (hs : List Hd) (s : List UInt8) (h32 : ∀ h ∈ hs, h.r.length = 32) (h : putKL hs = some s) : getKL s = some hs := by
  unfold putKL at h
  split at h
  · cases h
  · rename_i h64
    split at h
    · rename_i hv
      injection h with h
      have hb : behind s 68 = some (numL hs.length ++ (hs.map hdT).flatten) := by rw [← h]; exact behind_cons _ _
      have hrd : rd 0 (numL hs.length ++ (hs.map hdT).flatten) = some (hs.length, (hs.map hdT).flatten) := rd_num _ (by omega) _
      have e1 : countB s 68 = true := by rw [countB, hb]; simp only [rdB, hrd]; rfl
      have e2 : countN s 68 = hs.length := by rw [countN, hb]; simp only [rdN, hrd]
      have e3 : countR s 68 = (hs.map hdT).flatten := by rw [countR, hb]; simp only [rdR, hrd]
      have hp := hdsP_put hs [] h32 hv
      rw [List.append_nil] at hp
      rw [getKL, e1, e2, e3, if_neg (by simp; omega), hp]
    · cases h
theorem hd_back (l : List UInt8) (h : hdB l = true) : mayB (hdV l) = true ∧ (hdV l).r.length = 32 ∧ hdT (hdV l) ++ unR (rdR l) = l := by
  simp only [hdB, Bool.and_eq_true, decide_eq_true_eq] at h
  obtain ⟨⟨h1, h2⟩, h3⟩ := h
  have f1 := (form_rd l).1 h1
  have f2 := (form_un (rdR l)).1 h2
  simp only [beq_iff_eq] at f1 f2
  refine ⟨by rw [mayB, Bool.and_eq_true, decide_eq_true_eq, decide_eq_true_eq]; exact (show (0 : Int) ≤ (rdN l : Int) ∧ (rdN l : Int) ≤ 4096 by omega), unT_len _, ?_⟩
  unfold hdT hdV
  simp only [Int.toNat_natCast]
  rw [List.append_assoc, f2]
  exact f1.1
theorem hdsP_back : ∀ (n : Nat) (l : List UInt8) (hs : List Hd) (r : List UInt8), hdsP n l = some (hs, r) → hs.all mayB = true ∧ (∀ h ∈ hs, h.r.length = 32) ∧ (hs.map hdT).flatten ++ r = l
  | 0, l, hs, r, h => by
    simp [hdsP] at h
    obtain ⟨rfl, rfl⟩ := h
    simp
  | n + 1, l, hs, r, h => by
    rw [hdsP] at h
    split at h
    · rename_i hb
      cases hq : hdsP n (unR (rdR l)) with
      | none => rw [hq] at h; cases h
      | some x =>
        rw [hq] at h
        simp only [Option.map_some, Option.some.injEq, Prod.mk.injEq] at h
        obtain ⟨rfl, rfl⟩ := h
        obtain ⟨i1, i2, i3⟩ := hdsP_back n _ x.1 x.2 hq
        obtain ⟨b1, b2, b3⟩ := hd_back l hb
        refine ⟨by simp only [List.all_cons, b1, i1, Bool.and_self], ?_, ?_⟩
        · intro y hy
          rcases List.mem_cons.1 hy with rfl | hy
          · exact b2
          · exact i2 y hy
        · rw [List.map_cons, List.flatten_cons, List.append_assoc, i3, b3]
    · cases h
theorem getKL_back (l : List UInt8) (hs : List Hd) (h : getKL l = some hs) : putKL hs = some l ∧ (∀ x ∈ hs, x.r.length = 32) ∧ hs.length ≤ 64 := by
  unfold getKL at h
  split at h
  · cases h
  · rename_i hc
    simp only [not_or, Bool.not_eq_false] at hc
    split at h
    · rename_i x hs' hp
      injection h with h
      subst h
      obtain ⟨i1, i2, i3⟩ := hdsP_back _ _ _ _ hp
      have hl := hdsP_len _ _ _ _ hp
      rw [List.append_nil] at i3
      refine ⟨?_, i2, by omega⟩
      have hb : ∃ r, behind l 68 = some r := by
        cases hb : behind l 68 with
        | none => rw [countB, hb] at hc; cases hc.1
        | some r => exact ⟨r, rfl⟩
      obtain ⟨r, hb⟩ := hb
      have hr := (form_rd r).1 (by have := hc.1; rwa [countB, hb] at this)
      simp only [beq_iff_eq] at hr
      have e2 : countN l 68 = rdN r := by rw [countN, hb]
      have e3 : countR l 68 = rdR r := by rw [countR, hb]
      rw [putKL, if_neg (by omega), if_pos i1, i3, hl, e2, e3, hr.1, behind_some hb]
    · cases h
theorem hdsP_ok (n : Nat) (l : List UInt8) (hs : List Hd) (r : List UInt8) (h : hdsP n l = some (hs, r)) : ∀ x ∈ hs, x.r.length = 32 := (hdsP_back n l hs r h).2.1
end Go.Proofs.Ytjpnlnbpaecciaa
