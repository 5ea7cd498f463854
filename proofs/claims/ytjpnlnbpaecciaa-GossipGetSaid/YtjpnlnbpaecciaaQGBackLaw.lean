/- What is put is got; of what is cut off, or has a byte behind it, nothing: plain laws -/
import Derived.Test.YtjpnlnbpaecciaaQGGetK
import Derived.Test.YtjpnlnbpaecciaaQGGetLaw

set_option maxRecDepth 100000
namespace Go.Proofs.Ytjpnlnbpaecciaa
open Go.RowKit Go.Spec
theorem putGK_form {ks : List SgK} {t : List UInt8} (h : putGK ks = some t) : (1 ≤ ks.length ∧ ks.length ≤ 3) ∧ (ks.map ofK).all Sg.valid = true ∧ t = 71 :: (numL ks.length ++ ((ks.map ofK).map sgT).flatten) := by
  unfold putGK putGL at h
  rw [List.length_map] at h
  split at h
  · cases h
  · rename_i h3
    split at h
    · rename_i hv
      injection h with h
      exact ⟨by omega, hv, h.symm⟩
    · cases h
theorem prefG {ks ks' : List SgK} {s r : List UInt8} (h : ∀ k ∈ ks, K32 k) (h' : ∀ k ∈ ks', K32 k) (hs : putGK ks' = some s) (ht : putGK ks = some (s ++ r)) : r = [] := by
  obtain ⟨l1, v1, f1⟩ := putGK_form hs
  obtain ⟨l2, v2, f2⟩ := putGK_form ht
  rw [f1, List.cons_append, List.cons.injEq] at f2
  have e := f2.2
  rw [List.append_assoc] at e
  have r1 := rd_num ks'.length (by omega) (((ks'.map ofK).map sgT).flatten ++ r)
  have r2 := rd_num ks.length (by omega) (((ks.map ofK).map sgT).flatten)
  rw [e, r2] at r1
  simp only [Option.some.injEq, Prod.mk.injEq] at r1
  have p1 := sgsP_put ks' r h' v1
  have p2 := sgsP_put ks [] h v2
  rw [List.append_nil] at p2
  rw [← r1.1, ← r1.2, p2] at p1
  simp only [Option.some.injEq, Prod.mk.injEq] at p1
  exact p1.2.symm
theorem getGL_none_of {ks : List SgK} {t s r : List UInt8} (h : ∀ k ∈ ks, K32 k) (ht : putGK ks = some t) (he : t = s ++ r) (hr : r ≠ []) : getGL s = none := by
  cases hg : getGL s with
  | none => rfl
  | some ks' =>
    obtain ⟨h1, h2, _⟩ := getGL_back s ks' hg
    exact absurd (prefG h h2 h1 (by rw [ht, he])) hr
theorem getGL_none_longer {ks : List SgK} {t r : List UInt8} (h : ∀ k ∈ ks, K32 k) (ht : putGK ks = some t) (hr : r ≠ []) : getGL (t ++ r) = none := by
  cases hg : getGL (t ++ r) with
  | none => rfl
  | some ks' =>
    obtain ⟨h1, h2, _⟩ := getGL_back _ ks' hg
    exact absurd (prefG h2 h ht h1) hr
theorem getKL_of_G (l : List UInt8) : getKL (71 :: l) = none := by
  unfold getKL countB behind
  simp
theorem getGL_of_K (l : List UInt8) : getGL (68 :: l) = none := by
  unfold getGL countB behind
  simp
theorem putKL_form {hs : List Hd} {t : List UInt8} (h : putKL hs = some t) : hs.length ≤ 64 ∧ hs.all mayB = true ∧ t = 68 :: (numL hs.length ++ (hs.map hdT).flatten) := by
  unfold putKL at h
  split at h
  · cases h
  · split at h
    · rename_i hv
      injection h with h
      exact ⟨by omega, hv, h.symm⟩
    · cases h
theorem prefK {hs hs' : List Hd} {s r : List UInt8} (h : ∀ k ∈ hs, k.r.length = 32) (h' : ∀ k ∈ hs', k.r.length = 32) (hh : putKL hs' = some s) (ht : putKL hs = some (s ++ r)) : r = [] := by
  obtain ⟨l1, v1, f1⟩ := putKL_form hh
  obtain ⟨l2, v2, f2⟩ := putKL_form ht
  rw [f1, List.cons_append, List.cons.injEq] at f2
  have e := f2.2
  rw [List.append_assoc] at e
  have r1 := rd_num hs'.length (by omega) ((hs'.map hdT).flatten ++ r)
  have r2 := rd_num hs.length (by omega) ((hs.map hdT).flatten)
  rw [e, r2] at r1
  simp only [Option.some.injEq, Prod.mk.injEq] at r1
  have p1 := hdsP_put hs' r h' v1
  have p2 := hdsP_put hs [] h v2
  rw [List.append_nil] at p2
  rw [← r1.1, ← r1.2, p2] at p1
  simp only [Option.some.injEq, Prod.mk.injEq] at p1
  exact p1.2.symm
theorem getKL_none_of {hs : List Hd} {t s r : List UInt8} (h : ∀ k ∈ hs, k.r.length = 32) (ht : putKL hs = some t) (he : t = s ++ r) (hr : r ≠ []) : getKL s = none := by
  cases hg : getKL s with
  | none => rfl
  | some hs' =>
    obtain ⟨h1, h2, _⟩ := getKL_back s hs' hg
    exact absurd (prefK h h2 h1 (by rw [ht, he])) hr
theorem getKL_none_longer {hs : List Hd} {t r : List UInt8} (h : ∀ k ∈ hs, k.r.length = 32) (ht : putKL hs = some t) (hr : r ≠ []) : getKL (t ++ r) = none := by
  cases hg : getKL (t ++ r) with
  | none => rfl
  | some hs' =>
    obtain ⟨h1, h2, _⟩ := getKL_back _ hs' hg
    exact absurd (prefK h2 h ht h1) hr
theorem take_cut {t : List UInt8} {m : Nat} (h : m < t.length) : t = t.take m ++ t.drop m ∧ t.drop m ≠ [] := ⟨(List.take_append_drop m t).symm, fun h2 => by rw [List.drop_eq_nil_iff] at h2; omega⟩
/-- lengths of what is put -/
theorem putG_len {w : World} {ds : List Sg} {t : List UInt8} (h : ∀ d ∈ ds, d.In w) (ht : putGL ds = some t) : 0 < t.length ∧ t.length ≤ 100000 ∧ ∃ r, t = 71 :: r := by
  unfold putGL at ht
  split at ht
  · cases ht
  · split at ht
    · rename_i h3 hv
      injection ht with ht
      subst ht
      have h1 := numL_len ds.length (by omega)
      have h2 := sgTs_len ds h hv
      refine ⟨by simp, ?_, _, rfl⟩
      simp only [List.length_cons, List.length_append]
      omega
    · cases ht
theorem putK_len {hs : List Hd} {t : List UInt8} (h : ∀ d ∈ hs, d.r.length = 32) (ht : putKL hs = some t) : 0 < t.length ∧ t.length ≤ 100000 ∧ ∃ r, t = 68 :: r := by
  unfold putKL at ht
  split at ht
  · cases ht
  · split at ht
    · rename_i h3 hv
      injection ht with ht
      subst ht
      have h1 := numL_len hs.length (by omega)
      have h2 := hdTs_len hs h hv
      refine ⟨by simp, ?_, _, rfl⟩
      simp only [List.length_cons, List.length_append]
      omega
    · cases ht
end Go.Proofs.Ytjpnlnbpaecciaa
