/- Replies as bytes: plain laws -/
import Derived.Test.YtjpnlnbpaecciaaQGBackLaw
import Derived.Test.YtjpnlnbpaecciaaQMsgRqLaw

set_option maxRecDepth 100000
namespace Go.Proofs.Ytjpnlnbpaecciaa
open Go.RowKit Go.Spec
/-- a reply, wherever it lies -/
structure RpK where
  id : Int
  kind : Int
  code : Int
  heads : List SgK
  entries : List (List UInt8)
  proof : List (List UInt8)
def sgsT (ks : List SgK) : List UInt8 := ((ks.map ofK).map sgT).flatten
def textT (l : List UInt8) : List UInt8 := numL l.length ++ l
def headsB (ks : List SgK) (n : Nat) : Bool := (ks.map ofK).all Sg.valid && decide (ks.length = n)
def entriesB (es ps : List (List UInt8)) : Bool := es.all (fun t => decide (t.length ≤ 200)) && decide (es.length ≤ 16) && decide (ps.length ≤ 64)
def entriesT (es : List (List UInt8)) : List UInt8 := numL es.length ++ (es.map textT).flatten
def bodyRp (x : RpK) : Option (List UInt8) :=
  if x.kind = 1 then (if 1 ≤ x.code ∧ x.code ≤ 255 then some (numL x.code.toNat) else none)
  else if x.kind = 2 then (if headsB x.heads 1 then some (sgsT x.heads) else none)
  else if x.kind = 3 then (if entriesB x.entries x.proof then some (entriesT x.entries ++ hashesL x.proof) else none)
  else if x.kind = 4 then (if x.proof.length ≤ 64 then some (hashesL x.proof) else none)
  else if x.kind = 5 then (if headsB x.heads 2 then some (sgsT x.heads) else none)
  else none
def putRp (x : RpK) : Option (List UInt8) := if goodZ x.id then (bodyRp x).map (fun b => 82 :: (numL x.id.toNat ++ (numL x.kind.toNat ++ b))) else none
structure RpOk (x : RpK) : Prop where
  heads : ∀ k ∈ x.heads, K32 k
  proof : ∀ h ∈ x.proof, h.length = 32
/- a reader's steps -/
def txS (x : Rds) (most : Nat) : Rds := (cuR x.1, x.2 && cuB x.1 && decide ((cuT x.1).length ≤ most))
def hsS (x : Rds) : Rds := (usR x.1, x.2 && usB x.1)
def sgS (x : Rds) : Rds := (cuR x.1, (x.2 && cuB x.1 && decide ((cuT x.1).length ≤ 65536)) && (getS (cuT x.1)).isSome)
def zeroK : SgK := (0, zero32, 0, [], [])
def sgK1 (x : Rds) : SgK := (getS (cuT x.1)).getD zeroK
def enL : Nat → Rds → List (List UInt8)
  | 0, _ => []
  | n + 1, x => if x.2 then cuT x.1 :: enL n (txS x 200) else []
def enS : Nat → Rds → Rds
  | 0, x => x
  | n + 1, x => if x.2 then enS n (txS x 200) else x
def rpP (id k : Nat) (z : Rds) : RpK × Rds :=
  if k = 1 then (⟨id, 1, (nuN z 255 : Nat), [], [], []⟩, ((nuS z 255).1, (nuS z 255).2 && decide (0 < nuN z 255)))
  else if k = 2 then (⟨id, 2, 0, [sgK1 z], [], []⟩, sgS z)
  else if k = 3 then (⟨id, 3, 0, [], enL (nuN z 16) (nuS z 16), usX (enS (nuN z 16) (nuS z 16)).1⟩, hsS (enS (nuN z 16) (nuS z 16)))
  else if k = 4 then (⟨id, 4, 0, [], [], usX z.1⟩, hsS z)
  else if k = 5 then (⟨id, 5, 0, [sgK1 z, sgK1 (sgS z)], [], []⟩, sgS (sgS z))
  else (⟨id, k, 0, [], [], []⟩, z)
def getRp (l : List UInt8) : Option RpK :=
  let x := beS l 82
  let y := nuS x 1073741824
  let k := nuN y 5
  let p := rpP (nuN x 1073741824) k (nuS y 5)
  if p.2.2 && p.2.1 == [] && decide (1 ≤ k) then some p.1 else none
theorem cu_parts (t r : List UInt8) (h : t.length < 18446744073709551616) : cuB (textT t ++ r) = true ∧ cuT (textT t ++ r) = t ∧ cuR (textT t ++ r) = r := by
  have := cutL_text t r h
  unfold cuB cuT cuR textT
  rw [this]
  exact ⟨rfl, rfl, rfl⟩
theorem tx_put (t r : List UInt8) (most : Nat) (h : t.length ≤ most) (hm : most < 18446744073709551616) : cuT (textT t ++ r, true).1 = t ∧ txS (textT t ++ r, true) most = (r, true) := by
  obtain ⟨h1, h2, h3⟩ := cu_parts t r (by omega)
  exact ⟨h2, by unfold txS; simp [h1, h2, h3, h]⟩
theorem tx_back (x : Rds) (most : Nat) (h : (txS x most).2 = true) : x.2 = true ∧ x.1 = textT (cuT x.1) ++ cuR x.1 ∧ (cuT x.1).length ≤ most := by
  simp only [txS, Bool.and_eq_true, decide_eq_true_eq] at h
  obtain ⟨⟨h1, h2⟩, h3⟩ := h
  have := ((form_cut x.1).1 h2).1
  simp only [beq_iff_eq] at this
  exact ⟨h1, by unfold textT; rw [List.append_assoc, this], h3⟩
theorem hs_put (hs : List (List UInt8)) (r : List UInt8) (h : ∀ x ∈ hs, x.length = 32) (hl : hs.length ≤ 64) : usX (hashesL hs ++ r) = hs ∧ hsS (hashesL hs ++ r, true) = (r, true) := by
  have := unhashesL_hashes hs r h hl
  unfold hsS usX usR usB
  rw [this]
  exact ⟨rfl, rfl⟩
theorem hs_back (x : Rds) (h : (hsS x).2 = true) : x.2 = true ∧ x.1 = hashesL (usX x.1) ++ usR x.1 := by
  simp only [hsS, Bool.and_eq_true] at h
  have := (form_us x.1).1 h.2
  simp only [beq_iff_eq] at this
  exact ⟨h.1, this.symm⟩
theorem sg_put (k : SgK) (r : List UInt8) (h : K32 k) (hv : (ofK k).valid = true) : sgK1 (sgT (ofK k) ++ r, true) = k ∧ sgS (sgT (ofK k) ++ r, true) = (r, true) := by
  obtain ⟨h1, h2⟩ := sgV_put k r h hv
  have hb := bytes_len (ofK k) hv h.1 h.2
  have hc : cutL (sgT (ofK k) ++ r) = some ((ofK k).bytes, r) := cutL_text _ _ (by omega)
  have hB : cuB (sgT (ofK k) ++ r) = true := by rw [cuB, hc]; rfl
  have hT : cuT (sgT (ofK k) ++ r) = (ofK k).bytes := by rw [cuT, hc]
  rw [sgV, hB, if_pos rfl] at h1
  refine ⟨by unfold sgK1; rw [h1]; rfl, ?_⟩
  unfold sgS
  rw [h1, h2, hB]
  simp
  rw [hT]; omega
theorem sg_back (x : Rds) (h : (sgS x).2 = true) : x.2 = true ∧ (ofK (sgK1 x)).valid = true ∧ K32 (sgK1 x) ∧ x.1 = sgT (ofK (sgK1 x)) ++ cuR x.1 := by
  simp only [sgS, Bool.and_eq_true, decide_eq_true_eq] at h
  obtain ⟨⟨⟨h1, h2⟩, h3⟩, h4⟩ := h
  obtain ⟨k, hk⟩ := Option.isSome_iff_exists.1 h4
  have hs : sgV x.1 = some k := by rw [sgV, h2, if_pos rfl, hk]
  obtain ⟨b1, b2, b3⟩ := sgV_back x.1 k hs
  have e : sgK1 x = k := by unfold sgK1; rw [hk]; rfl
  rw [e]
  exact ⟨h1, b1, b2, b3.symm⟩
theorem en_put : ∀ (es : List (List UInt8)) (r : List UInt8), (∀ t ∈ es, t.length ≤ 200) → enL es.length ((es.map textT).flatten ++ r, true) = es ∧ enS es.length ((es.map textT).flatten ++ r, true) = (r, true)
  | [], r, _ => ⟨rfl, rfl⟩
  | t :: es, r, h => by
    have h0 := tx_put t ((es.map textT).flatten ++ r) 200 (h t (by simp)) (by decide)
    have ih := en_put es r (fun m hm => h m (by simp [hm]))
    simp only [List.map_cons, List.flatten_cons, List.append_assoc, List.length_cons, enL, enS, if_true]
    have e : cuT (textT t ++ ((es.map textT).flatten ++ r)) = t := h0.1
    rw [e, h0.2, ih.1, ih.2]
    exact ⟨rfl, rfl⟩
theorem en_back : ∀ (n : Nat) (x : Rds), (enS n x).2 = true → x.2 = true ∧ (enL n x).length = n ∧ (∀ t ∈ enL n x, t.length ≤ 200) ∧ x.1 = ((enL n x).map textT).flatten ++ (enS n x).1
  | 0, x, h => ⟨h, rfl, fun t ht => by simp [enL] at ht, rfl⟩
  | n + 1, x, h => by
    cases hx : x.2 with
    | false => simp only [enS, hx] at h; simp at h; rw [hx] at h; cases h
    | true =>
      simp only [enS, enL, hx, if_true] at h ⊢
      obtain ⟨h1, h2, h3, h4⟩ := en_back n (txS x 200) h
      obtain ⟨k1, k2, k3⟩ := tx_back x 200 h1
      refine ⟨trivial, by rw [List.length_cons, h2], ?_, ?_⟩
      · intro t ht
        rw [List.mem_cons] at ht
        rcases ht with rfl | ht
        · exact k3
        · exact h3 t ht
      · conv => lhs; rw [k2]
        have h4' : cuR x.1 = _ := h4
        rw [h4', List.map_cons, List.flatten_cons, List.append_assoc]
theorem en_le : ∀ (n : Nat) (x : Rds), (enL n x).length ≤ n
  | 0, _ => Nat.le_refl _
  | n + 1, x => by
    unfold enL
    split
    · rw [List.length_cons]; have := en_le n (txS x 200); omega
    · simp
/-- what a kind does not have is none -/
def RpK.canon (x : RpK) : RpK :=
  if x.kind = 1 then ⟨x.id, x.kind, x.code, [], [], []⟩ else if x.kind = 2 ∨ x.kind = 5 then ⟨x.id, x.kind, 0, x.heads, [], []⟩
  else if x.kind = 3 then ⟨x.id, x.kind, 0, [], x.entries, x.proof⟩ else if x.kind = 4 then ⟨x.id, x.kind, 0, [], [], x.proof⟩ else ⟨x.id, x.kind, 0, [], [], []⟩
theorem flat_len32 : ∀ {hs : List (List UInt8)}, (∀ x ∈ hs, x.length = 32) → hs.flatten.length = hs.length * 32
  | [], _ => rfl
  | h :: hs, k => by
    rw [List.flatten_cons, List.length_append, flat_len32 (fun x hx => k x (by simp [hx])), k h (by simp), List.length_cons]
    omega
theorem hashesL_len (hs : List (List UInt8)) (h : ∀ x ∈ hs, x.length = 32) : (hashesL hs).length ≤ 2058 := by
  unfold hashesL
  split
  · simp
  · have := numL_len hs.length (by omega)
    have : hs.flatten.length = hs.length * 32 := flat_len32 h
    simp only [List.length_append]
    omega
theorem texts_len : ∀ (es : List (List UInt8)), (∀ t ∈ es, t.length ≤ 200) → ((es.map textT).flatten).length ≤ 210 * es.length
  | [], _ => by simp
  | t :: es, h => by
    have h1 := h t (by simp)
    have h2 := numL_len t.length (by omega)
    have h3 := texts_len es (fun m hm => h m (by simp [hm]))
    simp only [List.map_cons, List.flatten_cons, List.length_append, List.length_cons, textT]
    omega
theorem sgK_len (k : SgK) (h : K32 k) (hv : (ofK k).valid = true) : (sgT (ofK k)).length ≤ 17010 := sgT_len (ofK k) hv h.1 h.2
theorem headsB_one {ks : List SgK} (h : headsB ks 1 = true) : ∃ k, ks = [k] ∧ (ofK k).valid = true := by
  simp only [headsB, Bool.and_eq_true, decide_eq_true_eq] at h
  match ks, h.2 with
  | [k], _ => exact ⟨k, rfl, by simpa using h.1⟩
theorem headsB_two {ks : List SgK} (h : headsB ks 2 = true) : ∃ a b, ks = [a, b] ∧ (ofK a).valid = true ∧ (ofK b).valid = true := by
  simp only [headsB, Bool.and_eq_true, decide_eq_true_eq] at h
  match ks, h.2 with
  | [a, b], _ => exact ⟨a, b, rfl, by simpa using h.1⟩
theorem entriesB_iff {es ps : List (List UInt8)} : entriesB es ps = true ↔ (∀ t ∈ es, t.length ≤ 200) ∧ es.length ≤ 16 ∧ ps.length ≤ 64 := by
  simp [entriesB, and_assoc]
/-- the kinds of replies that may be -/
theorem putRp_cases {x : RpK} {t : List UInt8} (h : putRp x = some t) : ∃ id : Nat, x.id = id ∧ id ≤ 1073741824 ∧ ∃ k : Nat, x.kind = k ∧ ∃ b, bodyRp x = some b ∧ t = 82 :: (numL id ++ (numL k ++ b)) ∧ 1 ≤ k ∧ k ≤ 5 := by
  unfold putRp at h
  split at h
  · rename_i hg
    have hg := goodZ_iff.1 hg
    cases hb : bodyRp x with
    | none => rw [hb] at h; cases h
    | some b =>
      rw [hb] at h
      simp only [Option.map_some, Option.some.injEq] at h
      have hk : 1 ≤ x.kind ∧ x.kind ≤ 5 := by
        unfold bodyRp at hb
        repeat (split at hb; omega)
        cases hb
      exact ⟨x.id.toNat, by omega, by omega, x.kind.toNat, by omega, b, rfl, h.symm, by omega, by omega⟩
  · cases h
theorem bodyRp_len {x : RpK} {b : List UInt8} (ho : RpOk x) (h : bodyRp x = some b) : b.length ≤ 60000 := by
  unfold bodyRp at h
  split at h
  · split at h
    · injection h with h; subst h; have := numL_len x.code.toNat (by omega); omega
    · cases h
  split at h
  · split at h
    · rename_i hh
      injection h with h; subst h
      obtain ⟨k, hk, hv⟩ := headsB_one hh
      have := sgK_len k (ho.heads k (by rw [hk]; simp)) hv
      rw [hk]
      simp [sgsT]; omega
    · cases h
  split at h
  · split at h
    · rename_i hh
      injection h with h; subst h
      obtain ⟨h1, h2, h3⟩ := entriesB_iff.1 hh
      have := texts_len _ h1
      have := hashesL_len _ ho.proof
      have := numL_len x.entries.length (by omega)
      simp only [entriesT, List.length_append]; omega
    · cases h
  split at h
  · split at h
    · injection h with h; subst h
      have := hashesL_len _ ho.proof
      omega
    · cases h
  split at h
  · split at h
    · rename_i hh
      injection h with h; subst h
      obtain ⟨k, k', hk, hv, hv'⟩ := headsB_two hh
      have := sgK_len k (ho.heads k (by rw [hk]; simp)) hv
      have := sgK_len k' (ho.heads k' (by rw [hk]; simp)) hv'
      rw [hk]
      simp [sgsT]; omega
    · cases h
  cases h
theorem putRp_len {x : RpK} {t : List UInt8} (ho : RpOk x) (h : putRp x = some t) : 0 < t.length ∧ t.length ≤ 65000 := by
  obtain ⟨id, _, hid, k, _, b, hb, rfl, hk1, hk2⟩ := putRp_cases h
  have := bodyRp_len ho hb
  have := numL_len30 id hid
  have := numL_len30 k (by omega)
  simp only [List.length_cons, List.length_append]
  omega
theorem rpP_put {x : RpK} {b : List UInt8} (ho : RpOk x) (id k : Nat) (hid : x.id = id) (hk : x.kind = k) (h : bodyRp x = some b) : rpP id k (b, true) = (x.canon, ([], true)) := by
  obtain ⟨xi, xk, xc, xh, xe, xp⟩ := x
  simp only at hid hk
  subst hid hk
  unfold bodyRp at h
  simp only at h
  unfold rpP RpK.canon
  simp only
  split at h
  · rename_i hk
    obtain rfl : k = 1 := by omega
    split at h
    · rename_i hc
      injection h with h; subst h
      have := nu_put xc.toNat 255 [] (by omega) (by decide)
      rw [List.append_nil] at this
      rw [if_pos rfl, this.1, this.2]
      have e : ((xc.toNat : Nat) : Int) = xc := by omega
      simp [e]; omega
    · cases h
  split at h
  · rename_i hk0 hk
    obtain rfl : k = 2 := by omega
    split at h
    · rename_i hh
      injection h with h; subst h
      obtain ⟨q, rfl, hv⟩ := headsB_one hh
      have := sg_put q [] (ho.heads q (by simp)) hv
      rw [List.append_nil] at this
      simp [sgsT, this.1, this.2]
    · cases h
  split at h
  · rename_i hk0 hk1 hk
    obtain rfl : k = 3 := by omega
    split at h
    · rename_i hh
      injection h with h; subst h
      obtain ⟨h1, h2, h3⟩ := entriesB_iff.1 hh
      have a1 := nu_put xe.length 16 ((xe.map textT).flatten ++ hashesL xp) h2 (by decide)
      have a2 := en_put xe (hashesL xp) h1
      have a3 := hs_put xp [] ho.proof h3
      rw [List.append_nil] at a3
      simp [entriesT, a1.1, a1.2, a2.1, a2.2, a3.1, a3.2]
    · cases h
  split at h
  · rename_i hk0 hk1 hk2 hk
    obtain rfl : k = 4 := by omega
    split at h
    · rename_i hh
      injection h with h; subst h
      have a3 := hs_put xp [] ho.proof hh
      rw [List.append_nil] at a3
      simp [a3.1, a3.2]
    · cases h
  split at h
  · rename_i hk0 hk1 hk2 hk3 hk
    obtain rfl : k = 5 := by omega
    split at h
    · rename_i hh
      injection h with h; subst h
      obtain ⟨p, q, rfl, hv, hv'⟩ := headsB_two hh
      have a1 := sg_put p (sgT (ofK q)) (ho.heads p (by simp)) hv
      have a2 := sg_put q [] (ho.heads q (by simp)) hv'
      rw [List.append_nil] at a2
      simp [sgsT, a1.1, a1.2, a2.1, a2.2]
    · cases h
  cases h
theorem getRp_put {x : RpK} {t : List UInt8} (ho : RpOk x) (h : putRp x = some t) : getRp t = some x.canon := by
  have hlen := (putRp_len ho h).2
  obtain ⟨id, hi, hid, k, hk, b, hb, rfl, hk1, hk2⟩ := putRp_cases h
  unfold getRp
  have h1 := nu_put id 1073741824 (numL k ++ b) hid (by decide)
  have h2 := nu_put k 5 b hk2 (by decide)
  rw [beS_put _ _ (by simp at hlen ⊢; omega)]
  simp only [h1.1, h1.2, h2.1, h2.2, rpP_put ho id k hi hk hb]
  rw [if_pos (by simp; omega)]
theorem rpP_back (id k : Nat) (z : Rds) (h2 : (rpP id k z).2.2 = true) (h1 : (rpP id k z).2.1 = []) (hk : 1 ≤ k) (hk5 : k ≤ 5) (hid : id ≤ 1073741824) :
    z.2 = true ∧ bodyRp (rpP id k z).1 = some z.1 ∧ (rpP id k z).1.canon = (rpP id k z).1 ∧ RpOk (rpP id k z).1 ∧ (rpP id k z).1.id = id ∧ (rpP id k z).1.kind = k := by
  rcases (by omega : k = 1 ∨ k = 2 ∨ k = 3 ∨ k = 4 ∨ k = 5) with rfl | rfl | rfl | rfl | rfl
  · simp only [rpP, if_true, Bool.and_eq_true, decide_eq_true_eq] at h1 h2 ⊢
    obtain ⟨k1, k2, k3⟩ := nu_back z 255 h2.1
    rw [h1, List.append_nil] at k2
    refine ⟨k1, ?_, by simp [RpK.canon], ⟨by simp, by simp⟩, trivial, rfl⟩
    unfold bodyRp
    rw [if_pos rfl, if_pos (by simp only; omega), ← congrArg some k2.symm]
    rfl
  · simp only [rpP, if_true, if_false, (by decide : ¬ (2 : Nat) = 1)] at h1 h2 ⊢
    obtain ⟨k1, k2, k3, k4⟩ := sg_back z h2
    have h1' : cuR z.1 = [] := h1
    rw [h1', List.append_nil] at k4
    refine ⟨k1, ?_, by simp [RpK.canon], ⟨by simpa using k3, by simp⟩, trivial, rfl⟩
    unfold bodyRp
    rw [if_neg (by simp), if_pos rfl, if_pos (by simp [headsB, k2])]
    simp only [sgsT, List.map_cons, List.map_nil, List.flatten_cons, List.flatten_nil, List.append_nil]
    rw [← k4]
  · simp only [rpP, if_true, if_false, (by decide : ¬ (3 : Nat) = 1), (by decide : ¬ (3 : Nat) = 2)] at h1 h2 ⊢
    obtain ⟨k1, k2⟩ := hs_back _ h2
    have h1' : usR (enS (nuN z 16) (nuS z 16)).1 = [] := h1
    rw [h1', List.append_nil] at k2
    obtain ⟨e1, e2, e3, e4⟩ := en_back _ _ k1
    obtain ⟨n1, n2, n3⟩ := nu_back z 16 e1
    have u1 := us_le (enS (nuN z 16) (nuS z 16)).1
    have u2 := us_32 (enS (nuN z 16) (nuS z 16)).1
    refine ⟨n1, ?_, by simp [RpK.canon], ⟨by simp, u2⟩, trivial, rfl⟩
    unfold bodyRp
    rw [if_neg (by simp), if_neg (by simp), if_pos rfl, if_pos (entriesB_iff.2 ⟨e3, by rw [e2]; exact n3, u1⟩)]
    unfold entriesT
    rw [e2, List.append_assoc, ← k2, ← e4, ← n2]
  · simp only [rpP, if_true, if_false, (by decide : ¬ (4 : Nat) = 1), (by decide : ¬ (4 : Nat) = 2), (by decide : ¬ (4 : Nat) = 3)] at h1 h2 ⊢
    obtain ⟨k1, k2⟩ := hs_back _ h2
    have h1' : usR z.1 = [] := h1
    rw [h1', List.append_nil] at k2
    refine ⟨k1, ?_, by simp [RpK.canon], ⟨by simp, us_32 z.1⟩, trivial, rfl⟩
    unfold bodyRp
    rw [if_neg (by simp), if_neg (by simp), if_neg (by simp), if_pos rfl, if_pos (us_le z.1), ← k2]
  · simp only [rpP, if_true, if_false, (by decide : ¬ (5 : Nat) = 1), (by decide : ¬ (5 : Nat) = 2), (by decide : ¬ (5 : Nat) = 3), (by decide : ¬ (5 : Nat) = 4)] at h1 h2 ⊢
    obtain ⟨k1, k2, k3, k4⟩ := sg_back _ h2
    obtain ⟨j1, j2, j3, j4⟩ := sg_back z k1
    have h1' : cuR (sgS z).1 = [] := h1
    rw [h1', List.append_nil] at k4
    have k4' : cuR z.1 = _ := k4
    rw [k4'] at j4
    refine ⟨j1, ?_, by simp [RpK.canon], ⟨by simpa using ⟨j3, k3⟩, by simp⟩, trivial, rfl⟩
    unfold bodyRp
    rw [if_neg (by simp), if_neg (by simp), if_neg (by simp), if_neg (by simp), if_pos rfl, if_pos (by simp [headsB, k2, j2])]
    simp only [sgsT, List.map_cons, List.map_nil, List.flatten_cons, List.flatten_nil, List.append_nil]
    rw [← j4]
theorem getRp_back {l : List UInt8} {y : RpK} (h : getRp l = some y) : putRp y = some l ∧ y.canon = y ∧ RpOk y ∧ l.length ≤ 65536 := by
  unfold getRp at h
  dsimp only at h
  split at h
  · rename_i hg
    injection h with h
    simp only [Bool.and_eq_true, decide_eq_true_eq, beq_iff_eq] at hg
    obtain ⟨⟨he2, he1⟩, hk⟩ := hg
    have hkl := nuN_le (nuS (beS l 82) 1073741824) 5
    have hidl := nuN_le (beS l 82) 1073741824
    obtain ⟨a1, a2, a3, a4, a5, a6⟩ := rpP_back _ _ _ he2 he1 hk hkl hidl
    obtain ⟨b1, b2, b3⟩ := nu_back _ _ a1
    obtain ⟨c1, c2, c3⟩ := nu_back _ _ b1
    obtain ⟨d1, d2⟩ := beS_back _ _ c1
    rw [b2] at c2
    rw [c2] at d1
    rw [h] at a2 a3 a4 a5 a6
    refine ⟨?_, a3, a4, d2⟩
    unfold putRp
    rw [if_pos (goodZ_iff.2 (by omega)), a2, a5, a6]
    simp only [Option.map_some, Int.toNat_natCast]
    rw [← d1]
  · cases h
/- what the document's way says -/
def refBody (id k : Nat) (s : List UInt8) : Option RpK :=
  if k = 1 then (if rdB s then some ⟨id, 1, (min (rdN s) 1000 : Nat), [], [], []⟩ else none)
  else if k = 2 then (if cuB s && (getS (cuT s)).isSome then some ⟨id, 2, 0, [sgK1 (s, true)], [], []⟩ else none)
  else if k = 3 then (if rdB s && decide (rdN s ≤ 16) && (enS (rdN s) (rdR s, true)).2 && usB (enS (rdN s) (rdR s, true)).1 then some ⟨id, 3, 0, [], enL (rdN s) (rdR s, true), usX (enS (rdN s) (rdR s, true)).1⟩ else none)
  else if k = 4 then (if usB s then some ⟨id, 4, 0, [], [], usX s⟩ else none)
  else if k = 5 then (if cuB s && (getS (cuT s)).isSome && (cuB (cuR s) && (getS (cuT (cuR s))).isSome) then some ⟨id, 5, 0, [sgK1 (s, true), sgK1 (cuR s, true)], [], []⟩ else none)
  else none
def refRp (l : List UInt8) : Option RpK :=
  let s := l.drop 1
  let a := rdR s
  if rdB s && rdB a && decide (rdN s ≤ 1073741824) && decide (rdN a ≤ 5) then refBody (rdN s) (rdN a) (rdR a) else none
theorem refBody_of (id k : Nat) {x : RpK} {b : List UInt8} (ho : RpOk x) (hid : x.id = id) (hk : x.kind = k) (h : bodyRp x = some b) : refBody id k b = some x.canon := by
  obtain ⟨xi, xk, xc, xh, xe, xp⟩ := x
  simp only at hid hk
  subst hid hk
  unfold bodyRp at h
  simp only at h
  unfold refBody RpK.canon
  simp only
  split at h
  · rename_i hk
    obtain rfl : k = 1 := by omega
    split at h
    · rename_i hc
      injection h with h; subst h
      have := rd_parts xc.toNat [] (by omega)
      rw [List.append_nil] at this
      rw [if_pos rfl, this.1, this.2.1]
      have e : ((min xc.toNat 1000 : Nat) : Int) = xc := by omega
      rw [e]; simp
    · cases h
  split at h
  · rename_i hk0 hk
    obtain rfl : k = 2 := by omega
    split at h
    · rename_i hh
      injection h with h; subst h
      obtain ⟨q, rfl, hv⟩ := headsB_one hh
      have := sg_put q [] (ho.heads q (by simp)) hv
      rw [List.append_nil] at this
      have h3 : (sgS (sgT (ofK q), true)).2 = true := by rw [this.2]
      simp only [sgS, Bool.and_eq_true, Bool.true_and, decide_eq_true_eq] at h3
      simp [sgsT, this.1, h3.1.1, h3.2]
    · cases h
  split at h
  · rename_i hk0 hk1 hk
    obtain rfl : k = 3 := by omega
    split at h
    · rename_i hh
      injection h with h; subst h
      obtain ⟨h1, h2, h3⟩ := entriesB_iff.1 hh
      have a1 := rd_parts xe.length ((xe.map textT).flatten ++ hashesL xp) (by omega)
      have a2 := en_put xe (hashesL xp) h1
      have a3 := hs_put xp [] ho.proof h3
      rw [List.append_nil] at a3
      have a4 : usB (hashesL xp) = true := by have := congrArg (·.2) a3.2; simpa [hsS] using this
      simp [entriesT, a1.1, a1.2, a2.1, a2.2, a3.1, a4, h2]
    · cases h
  split at h
  · rename_i hk0 hk1 hk2 hk
    obtain rfl : k = 4 := by omega
    split at h
    · rename_i hh
      injection h with h; subst h
      have a3 := hs_put xp [] ho.proof hh
      rw [List.append_nil] at a3
      have a4 : usB (hashesL xp) = true := by have := congrArg (·.2) a3.2; simpa [hsS] using this
      simp [a3.1, a4]
    · cases h
  split at h
  · rename_i hk0 hk1 hk2 hk3 hk
    obtain rfl : k = 5 := by omega
    split at h
    · rename_i hh
      injection h with h; subst h
      obtain ⟨p, q, rfl, hv, hv'⟩ := headsB_two hh
      have a1 := sg_put p (sgT (ofK q)) (ho.heads p (by simp)) hv
      have a2 := sg_put q [] (ho.heads q (by simp)) hv'
      rw [List.append_nil] at a2
      have h3 : (sgS (sgT (ofK p) ++ sgT (ofK q), true)).2 = true := by rw [a1.2]
      have h4 : (sgS (sgT (ofK q), true)).2 = true := by rw [a2.2]
      have h5 : cuR (sgT (ofK p) ++ sgT (ofK q)) = sgT (ofK q) := congrArg (·.1) a1.2
      simp only [sgS, Bool.and_eq_true, Bool.true_and, decide_eq_true_eq] at h3 h4
      simp [sgsT, a1.1, a2.1, h3.1.1, h3.2, h4.1.1, h4.2, h5]
    · cases h
  cases h
theorem refRp_of {x : RpK} {t : List UInt8} (ho : RpOk x) (h : putRp x = some t) : refRp t = some x.canon := by
  obtain ⟨id, hi, hid, k, hk, b, hb, rfl, hk1, hk2⟩ := putRp_cases h
  obtain ⟨h1, h2, h3⟩ := rd_parts id (numL k ++ b) (by omega)
  obtain ⟨k1, k2, k3⟩ := rd_parts k b (by omega)
  unfold refRp
  simp only [List.drop_succ_cons, List.drop_zero, h1, h2, h3, k1, k2, k3, refBody_of id k ho hi hk hb]
  rw [if_pos (by simp; omega)]
theorem sgK1_32 (x : Rds) (h : (getS (cuT x.1)).isSome = true) : K32 (sgK1 x) := by
  obtain ⟨k, hk⟩ := Option.isSome_iff_exists.1 h
  obtain ⟨z, i, _, _, _, h32, h32'⟩ := getS_back _ _ hk
  have e : sgK1 x = k := by unfold sgK1; rw [hk]; rfl
  rw [e]
  exact ⟨h32, h32'⟩
theorem refBody_ok (id k : Nat) (s : List UInt8) {y : RpK} (h : refBody id k s = some y) : RpOk y ∧ y.canon = y := by
  unfold refBody at h
  split at h
  · split at h
    · injection h with h; subst h; exact ⟨⟨by simp, by simp⟩, by simp [RpK.canon]⟩
    · cases h
  split at h
  · split at h
    · rename_i hh
      simp only [Bool.and_eq_true] at hh
      injection h with h; subst h
      exact ⟨⟨by simpa using sgK1_32 (s, true) hh.2, by simp⟩, by simp [RpK.canon]⟩
    · cases h
  split at h
  · split at h
    · injection h with h; subst h
      exact ⟨⟨by simp, us_32 _⟩, by simp [RpK.canon]⟩
    · cases h
  split at h
  · split at h
    · injection h with h; subst h
      exact ⟨⟨by simp, us_32 _⟩, by simp [RpK.canon]⟩
    · cases h
  split at h
  · split at h
    · rename_i hh
      simp only [Bool.and_eq_true] at hh
      injection h with h; subst h
      exact ⟨⟨by simpa using ⟨sgK1_32 (s, true) hh.1.2, sgK1_32 (cuR s, true) hh.2.2⟩, by simp⟩, by simp [RpK.canon]⟩
    · cases h
  cases h
theorem refRp_ok {l : List UInt8} {y : RpK} (h : refRp l = some y) : RpOk y ∧ y.canon = y := by
  unfold refRp at h
  dsimp only at h
  split at h
  · exact refBody_ok _ _ _ h
  · cases h
theorem refRp_yes {l : List UInt8} {y : RpK} (h : getRp l = some y) : refRp l = some y ∧ putRp y = some l := by
  obtain ⟨h1, h2, h3, _⟩ := getRp_back h
  exact ⟨by rw [refRp_of h3 h1, h2], h1⟩
theorem refRp_no {l : List UInt8} {y : RpK} (h : getRp l = none) (hy : refRp l = some y) : putRp y ≠ some l := fun h2 => by
  rw [getRp_put (refRp_ok hy).1 h2] at h
  cases h
end Go.Proofs.Ytjpnlnbpaecciaa
