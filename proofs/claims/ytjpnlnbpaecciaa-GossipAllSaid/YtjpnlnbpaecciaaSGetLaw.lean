/- Signed heads out of bytes: plain laws -/
import Derived.Test.YtjpnlnbpaecciaaSGet
set_option maxRecDepth 100000
namespace Go.Proofs.Ytjpnlnbpaecciaa
open Go.RowKit Go.Spec
theorem sgP_put (z i : Nat) (root sig r : List UInt8) (path : List (List UInt8)) (hz : z ≤ 4096) (hi : i < 8) (hr : root.length = 32) (hs : sig.length ≤ 1000000) (h32 : ∀ x ∈ path, x.length = 32) (hp : path.length ≤ 64) :
    sgP (putS z root i sig path ++ r) = ⟨z, true, root, true, i, true, sig, true, path, true, r⟩ := by
  have h1 : rd 0 (putS z root i sig path ++ r) = some (z, root ++ (numL i ++ (numL sig.length ++ (sig ++ (hashesL path ++ r))))) := by
    rw [show putS z root i sig path ++ r = numL z ++ (root ++ (numL i ++ (numL sig.length ++ (sig ++ (hashesL path ++ r))))) by simp [putS]]
    exact rd_num _ (by omega) _
  have e1 : rdR (putS z root i sig path ++ r) = root ++ (numL i ++ (numL sig.length ++ (sig ++ (hashesL path ++ r)))) := by rw [rdR, h1]
  have e2 : unT (root ++ (numL i ++ (numL sig.length ++ (sig ++ (hashesL path ++ r))))) = root := by
    rw [unT, if_neg (by simp; omega), ← hr, List.take_left]
  have e3 : unR (root ++ (numL i ++ (numL sig.length ++ (sig ++ (hashesL path ++ r))))) = numL i ++ (numL sig.length ++ (sig ++ (hashesL path ++ r))) := by
    rw [unR, if_neg (by simp; omega), ← hr, List.drop_left]
  have h2 : rd 0 (numL i ++ (numL sig.length ++ (sig ++ (hashesL path ++ r)))) = some (i, numL sig.length ++ (sig ++ (hashesL path ++ r))) := rd_num _ (by omega) _
  have h3 : cutL (numL sig.length ++ (sig ++ (hashesL path ++ r))) = some (sig, hashesL path ++ r) := by
    have := cutL_text sig (hashesL path ++ r) (by omega)
    rwa [List.append_assoc] at this
  have h4 := unhashesL_hashes path r h32 hp
  have e4 : rdR (numL i ++ (numL sig.length ++ (sig ++ (hashesL path ++ r)))) = numL sig.length ++ (sig ++ (hashesL path ++ r)) := by rw [rdR, h2]
  have e5 : cuR (numL sig.length ++ (sig ++ (hashesL path ++ r))) = hashesL path ++ r := by rw [cuR, h3]
  unfold sgP
  simp only [e1, e3, e4, e5, e2]
  have f1 : rdN (putS z root i sig path ++ r) = z := by rw [rdN, h1]
  have f2 : rdB (putS z root i sig path ++ r) = true := by rw [rdB, h1]; rfl
  have f3 : unB (root ++ (numL i ++ (numL sig.length ++ (sig ++ (hashesL path ++ r))))) = true := by simp [unB]; omega
  have f4 : rdN (numL i ++ (numL sig.length ++ (sig ++ (hashesL path ++ r)))) = i := by rw [rdN, h2]
  have f5 : rdB (numL i ++ (numL sig.length ++ (sig ++ (hashesL path ++ r)))) = true := by rw [rdB, h2]; rfl
  have f6 : cuT (numL sig.length ++ (sig ++ (hashesL path ++ r))) = sig := by rw [cuT, h3]
  have f7 : cuB (numL sig.length ++ (sig ++ (hashesL path ++ r))) = true := by rw [cuB, h3]; rfl
  have f8 : usX (hashesL path ++ r) = path := by rw [usX, h4]
  have f9 : usB (hashesL path ++ r) = true := by rw [usB, h4]; rfl
  have f10 : usR (hashesL path ++ r) = r := by rw [usR, h4]
  rw [f1, f2, f3, f4, f5, f6, f7, f8, f9, f10]
theorem sgP_back (l : List UInt8) (h : (sgP l).ok = true) : putS (sgP l).n (sgP l).T (sgP l).i (sgP l).g (sgP l).p ++ (sgP l).r = l := by
  simp only [SgP.ok, Bool.and_eq_true] at h
  obtain ⟨⟨⟨⟨a, b⟩, c⟩, d⟩, e⟩ := h
  have f1 := (form_rd l).1 a
  have f2 := (form_un (rdR l)).1 b
  have f3 := (form_rd (unR (rdR l))).1 c
  have f4 := (form_cut (rdR (unR (rdR l)))).1 d
  have f5 := (form_us (cuR (rdR (unR (rdR l))))).1 e
  simp only [beq_iff_eq] at f1 f2 f3 f4 f5
  show putS (rdN l) (unT (rdR l)) (rdN (unR (rdR l))) (cuT (rdR (unR (rdR l)))) (usX (cuR (rdR (unR (rdR l))))) ++ usR (cuR (rdR (unR (rdR l)))) = l
  unfold putS
  simp only [List.append_assoc]
  rw [f5, f4.1, f3.1, f2, f1.1]
theorem getS_back (l : List UInt8) (k : SgK) (h : getS l = some k) : ∃ z i : Nat, k = ((z : Int), k.2.1, (i : Int), k.2.2.2.1, k.2.2.2.2) ∧ validB (z : Int) (i : Int) k.2.2.2.1 k.2.2.2.2.length = true ∧ putS z k.2.1 i k.2.2.2.1 k.2.2.2.2 = l ∧ k.2.1.length = 32 ∧ ∀ x ∈ k.2.2.2.2, x.length = 32 := by
  unfold getS at h
  split at h
  · rename_i hc
    simp only [Bool.and_eq_true, beq_iff_eq] at hc
    injection h with h
    subst h
    refine ⟨(sgP l).n, (sgP l).i, rfl, hc.2, ?_, (sgP_32 l).1, (sgP_32 l).2⟩
    have := sgP_back l hc.1.1
    rw [hc.1.2, List.append_nil] at this
    exact this
  · cases h
theorem getS_put (d : Sg) (t : List UInt8) (hr : d.root.length = 32) (h32 : ∀ x ∈ d.path, x.length = 32) (h : d.put = some t) : getS t = some d.k := by
  obtain ⟨z, root, i, sig, path, a, cap⟩ := d
  unfold Sg.put at h
  split at h
  · rename_i hv
    injection h with h
    simp only at hr h32
    have hv' : validB z i sig path.length = true := hv
    obtain ⟨⟨h1, h2⟩, h3, h4, h5, h6⟩ := validB_iff.1 hv'
    obtain ⟨zn, rfl⟩ : ∃ n : Nat, z = n := ⟨z.toNat, by omega⟩
    obtain ⟨jn, rfl⟩ : ∃ n : Nat, i = n := ⟨i.toNat, by omega⟩
    have hp := sgP_put zn jn root sig [] path (by omega) (by omega) hr (by omega) h32 (by omega)
    rw [List.append_nil] at hp
    have ht : putS zn root jn sig path = t := by rw [← h]; rfl
    rw [ht] at hp
    unfold getS
    rw [hp]
    simp [SgP.ok, SgP.k, hv', Sg.k]
  · cases h
end Go.Proofs.Ytjpnlnbpaecciaa
