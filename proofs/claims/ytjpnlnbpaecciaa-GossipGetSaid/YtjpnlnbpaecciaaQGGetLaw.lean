/- Signed heads' bytes: plain laws -/
import Derived.Test.YtjpnlnbpaecciaaQGGet

set_option maxRecDepth 100000
namespace Go.Proofs.Ytjpnlnbpaecciaa
open Go.RowKit Go.Spec
def ofK (k : SgK) : Sg := ⟨k.1, k.2.1, k.2.2.1, k.2.2.2.1, k.2.2.2.2, none, 0⟩
theorem ofK_k (k : SgK) : (ofK k).k = k := rfl
def putGK (ks : List SgK) : Option (List UInt8) := putGL (ks.map ofK)
theorem sgT_k (d : Sg) : sgT (ofK d.k) = sgT d := rfl
theorem putGL_k (ds : List Sg) : putGL ds = putGK (ds.map Sg.k) := by
  unfold putGK putGL
  simp only [List.length_map, List.map_map, List.all_map]
  rfl
/-- a signed head whose hashes have 32 bytes -/
def K32 (k : SgK) : Prop := k.2.1.length = 32 ∧ ∀ x ∈ k.2.2.2.2, x.length = 32
theorem sgV_put (k : SgK) (r : List UInt8) (h : K32 k) (hv : (ofK k).valid = true) : sgV (sgT (ofK k) ++ r) = some k ∧ cuR (sgT (ofK k) ++ r) = r := by
  have hb := bytes_len (ofK k) hv h.1 h.2
  have hc : cutL (sgT (ofK k) ++ r) = some ((ofK k).bytes, r) := cutL_text _ _ (by omega)
  have hp : (ofK k).put = some (ofK k).bytes := by rw [Sg.put, hv]; rfl
  have hg := getS_put (ofK k) _ h.1 h.2 hp
  refine ⟨?_, by rw [cuR, hc]⟩
  rw [sgV, cuB, hc]
  simp only [Option.isSome_some, if_true]
  rw [cuT, hc]
  exact hg
theorem sgsP_put : ∀ (ks : List SgK) (r : List UInt8), (∀ k ∈ ks, K32 k) → (ks.map ofK).all Sg.valid = true → sgsP ks.length (((ks.map ofK).map sgT).flatten ++ r) = some (ks, r)
  | [], r, _, _ => rfl
  | k :: ks, r, h, hv => by
    simp only [List.map_cons, List.all_cons, Bool.and_eq_true] at hv
    have e : (((k :: ks).map ofK).map sgT).flatten ++ r = sgT (ofK k) ++ (((ks.map ofK).map sgT).flatten ++ r) := by simp
    obtain ⟨h1, h2⟩ := sgV_put k (((ks.map ofK).map sgT).flatten ++ r) (h k List.mem_cons_self) hv.1
    rw [e, List.length_cons, sgsP, h1, h2, sgsP_put ks r (fun x hx => h x (List.mem_cons_of_mem _ hx)) hv.2]
    rfl
theorem sgV_back (l : List UInt8) (k : SgK) (h : sgV l = some k) : (ofK k).valid = true ∧ K32 k ∧ sgT (ofK k) ++ cuR l = l := by
  unfold sgV at h
  split at h
  · rename_i hc
    have hf := (form_cut l).1 hc
    simp only [beq_iff_eq] at hf
    obtain ⟨z, i, hk, hv, hp, h32, h32'⟩ := getS_back _ _ h
    have hb : (ofK k).bytes = cuT l := by
      rw [← hp]
      show putS k.1.toNat k.2.1 k.2.2.1.toNat k.2.2.2.1 k.2.2.2.2 = _
      rw [show k.1 = (z : Int) from congrArg (·.1) hk, show k.2.2.1 = (i : Int) from congrArg (·.2.2.1) hk]
      simp
    refine ⟨?_, ⟨h32, h32'⟩, ?_⟩
    · show validB k.1 k.2.2.1 k.2.2.2.1 k.2.2.2.2.length = true
      rw [show k.1 = (z : Int) from congrArg (·.1) hk, show k.2.2.1 = (i : Int) from congrArg (·.2.2.1) hk]
      exact hv
    · unfold sgT
      rw [hb, List.append_assoc]
      exact hf.1
  · cases h
theorem sgsP_back : ∀ (n : Nat) (l : List UInt8) (ks : List SgK) (r : List UInt8), sgsP n l = some (ks, r) → ks.length = n ∧ (ks.map ofK).all Sg.valid = true ∧ (∀ k ∈ ks, K32 k) ∧ ((ks.map ofK).map sgT).flatten ++ r = l
  | 0, l, ks, r, h => by
    simp [sgsP] at h
    obtain ⟨rfl, rfl⟩ := h
    simp
  | n + 1, l, ks, r, h => by
    rw [sgsP] at h
    cases hs : sgV l with
    | none => rw [hs] at h; cases h
    | some k =>
      rw [hs] at h
      cases hq : sgsP n (cuR l) with
      | none => simp only [hq] at h; cases h
      | some x =>
        simp only [hq, Option.map_some, Option.some.injEq, Prod.mk.injEq] at h
        obtain ⟨rfl, rfl⟩ := h
        obtain ⟨i0, i1, i2, i3⟩ := sgsP_back n _ x.1 x.2 hq
        obtain ⟨b1, b2, b3⟩ := sgV_back l k hs
        refine ⟨by rw [List.length_cons, i0], by simp only [List.map_cons, List.all_cons, b1, i1, Bool.and_self], ?_, ?_⟩
        · intro y hy
          rcases List.mem_cons.1 hy with rfl | hy
          · exact b2
          · exact i2 y hy
        · rw [List.map_cons, List.map_cons, List.flatten_cons, List.append_assoc, i3, b3]
theorem getGL_put (ks : List SgK) (t : List UInt8) (h32 : ∀ k ∈ ks, K32 k) (h : putGK ks = some t) : getGL t = some ks := by
  unfold putGK putGL at h
  rw [List.length_map] at h
  split at h
  · cases h
  · rename_i h3
    split at h
    · rename_i hv
      injection h with h
      have hb : behind t 71 = some (numL ks.length ++ ((ks.map ofK).map sgT).flatten) := by rw [← h]; exact behind_cons _ _
      have hrd : rd 0 (numL ks.length ++ ((ks.map ofK).map sgT).flatten) = some (ks.length, ((ks.map ofK).map sgT).flatten) := rd_num _ (by omega) _
      have e1 : countB t 71 = true := by rw [countB, hb]; simp only [rdB, hrd]; rfl
      have e2 : countN t 71 = ks.length := by rw [countN, hb]; simp only [rdN, hrd]
      have e3 : countR t 71 = ((ks.map ofK).map sgT).flatten := by rw [countR, hb]; simp only [rdR, hrd]
      have hp := sgsP_put ks [] h32 hv
      rw [List.append_nil] at hp
      rw [getGL, e1, e2, e3, if_neg (by simp only [Bool.true_eq_false, false_or]; exact h3), hp]
    · cases h
theorem getGL_back (l : List UInt8) (ks : List SgK) (h : getGL l = some ks) : putGK ks = some l ∧ (∀ k ∈ ks, K32 k) ∧ ks.length ≤ 3 ∧ 1 ≤ ks.length := by
  unfold getGL at h
  split at h
  · cases h
  · rename_i hc
    simp only [not_or, Bool.not_eq_false] at hc
    split at h
    · rename_i x ks' hp
      injection h with h
      subst h
      obtain ⟨i0, i1, i2, i3⟩ := sgsP_back _ _ _ _ hp
      rw [List.append_nil] at i3
      refine ⟨?_, i2, by omega, by omega⟩
      have hb : ∃ r, behind l 71 = some r := by
        cases hb : behind l 71 with
        | none => rw [countB, hb] at hc; cases hc.1
        | some r => exact ⟨r, rfl⟩
      obtain ⟨r, hb⟩ := hb
      have hr := (form_rd r).1 (by have := hc.1; rwa [countB, hb] at this)
      simp only [beq_iff_eq] at hr
      have e2 : countN l 71 = rdN r := by rw [countN, hb]
      have e3 : countR l 71 = rdR r := by rw [countR, hb]
      unfold putGK putGL
      rw [List.length_map, if_neg (by omega), if_pos i1, i3, i0, e2, e3, hr.1, behind_some hb]
    · cases h
end Go.Proofs.Ytjpnlnbpaecciaa
