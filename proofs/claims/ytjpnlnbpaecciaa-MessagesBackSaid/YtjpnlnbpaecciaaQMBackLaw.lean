/- What is put is got, and nothing of what is cut off or has more behind it: plain laws -/
import Derived.Test.YtjpnlnbpaecciaaQGreat
import Derived.Test.YtjpnlnbpaecciaaQLawMForm

set_option maxRecDepth 100000
namespace Go.Proofs.Ytjpnlnbpaecciaa
open Go.RowKit Go.Spec
theorem getRq_more {r : Rq} {t s : List UInt8} (h : putRq r = some t) (hs : s ≠ []) : getRq (t ++ s) = none := by
  by_cases hlen : (t ++ s).length ≤ 65536
  · obtain ⟨id, k, l, hc, hl, hk1, hk2, hid, hall, rfl⟩ := putRq_nat h
    unfold getRq
    have h1 := nu_put id 1073741824 (numL k ++ ((l.map numL).flatten ++ s)) hid (by decide)
    have h2 := nu_put k 5 ((l.map numL).flatten ++ s) hk2 (by decide)
    have h3 := nus_put l s hall
    have e : (81 :: (numL id ++ (numL k ++ (l.map numL).flatten))) ++ s = 81 :: (numL id ++ (numL k ++ ((l.map numL).flatten ++ s))) := by simp
    rw [e] at hlen ⊢
    rw [beS_put _ _ (by simp at hlen ⊢; omega)]
    simp only [h1.1, h1.2, h2.1, h2.2, ← hl, h3.1, h3.2]
    rw [if_neg (by simp [hs])]
  · cases hg : getRq (t ++ s) with
    | none => rfl
    | some r' =>
      have := putRq_len (getRq_back hg).1
      omega
theorem rpP_putR {x : RpK} {b : List UInt8} (r : List UInt8) (ho : RpOk x) (id k : Nat) (hid : x.id = id) (hk : x.kind = k) (h : bodyRp x = some b) : (rpP id k (b ++ r, true)).2 = (r, true) := by
  obtain ⟨xi, xk, xc, xh, xe, xp⟩ := x
  simp only at hid hk
  subst hid hk
  unfold bodyRp at h
  simp only at h
  unfold rpP
  split at h
  · rename_i hk
    obtain rfl : k = 1 := by omega
    split at h
    · rename_i hc
      injection h with h; subst h
      have := nu_put xc.toNat 255 r (by omega) (by decide)
      rw [if_pos rfl, this.1, this.2]
      simp; omega
    · cases h
  split at h
  · rename_i hk0 hk
    obtain rfl : k = 2 := by omega
    split at h
    · rename_i hh
      injection h with h; subst h
      obtain ⟨q, rfl, hv⟩ := headsB_one hh
      have := sg_put q r (ho.heads q (by simp)) hv
      simp [sgsT, this.2]
    · cases h
  split at h
  · rename_i hk0 hk1 hk
    obtain rfl : k = 3 := by omega
    split at h
    · rename_i hh
      injection h with h; subst h
      obtain ⟨h1, h2, h3⟩ := entriesB_iff.1 hh
      have a1 := nu_put xe.length 16 ((xe.map textT).flatten ++ (hashesL xp ++ r)) h2 (by decide)
      have a2 := en_put xe (hashesL xp ++ r) h1
      have a3 := hs_put xp r ho.proof h3
      simp [entriesT, a1.1, a1.2, a2.2, a3.2]
    · cases h
  split at h
  · rename_i hk0 hk1 hk2 hk
    obtain rfl : k = 4 := by omega
    split at h
    · rename_i hh
      injection h with h; subst h
      have a3 := hs_put xp r ho.proof hh
      simp [a3.2]
    · cases h
  split at h
  · rename_i hk0 hk1 hk2 hk3 hk
    obtain rfl : k = 5 := by omega
    split at h
    · rename_i hh
      injection h with h; subst h
      obtain ⟨p, q, rfl, hv, hv'⟩ := headsB_two hh
      have a1 := sg_put p (sgT (ofK q) ++ r) (ho.heads p (by simp)) hv
      have a2 := sg_put q r (ho.heads q (by simp)) hv'
      simp [sgsT, a1.2, a2.2]
    · cases h
  cases h
theorem getRp_more {x : RpK} {t s : List UInt8} (ho : RpOk x) (h : putRp x = some t) (hs : s ≠ []) : getRp (t ++ s) = none := by
  by_cases hlen : (t ++ s).length ≤ 65536
  · obtain ⟨id, hi, hid, k, hk, b, hb, rfl, hk1, hk2⟩ := putRp_cases h
    have h1 := nu_put id 1073741824 (numL k ++ (b ++ s)) hid (by decide)
    have h2 := nu_put k 5 (b ++ s) hk2 (by decide)
    have e : (82 :: (numL id ++ (numL k ++ b))) ++ s = 82 :: (numL id ++ (numL k ++ (b ++ s))) := by simp
    rw [e] at hlen ⊢
    unfold getRp
    rw [beS_put _ _ (by simp at hlen ⊢; omega)]
    simp only [h1.1, h1.2, h2.1, h2.2, rpP_putR s ho id k hi hk hb]
    rw [if_neg (by simp [hs])]
  · cases hg : getRp (t ++ s) with
    | none => rfl
    | some y =>
      have := (getRp_back hg).2.2.2
      omega
theorem getRq_cut {r : Rq} {t : List UInt8} {m : Nat} (h : putRq r = some t) (hm : m < t.length) : getRq (t.take m) = none := by
  cases hg : getRq (t.take m) with
  | none => rfl
  | some r' =>
    obtain ⟨h1, h2⟩ := take_cut hm
    have h3 := getRq_more (getRq_back hg).1 h2
    rw [← h1, getRq_put h] at h3
    cases h3
theorem getRp_cut {x : RpK} {t : List UInt8} {m : Nat} (ho : RpOk x) (h : putRp x = some t) (hm : m < t.length) : getRp (t.take m) = none := by
  cases hg : getRp (t.take m) with
  | none => rfl
  | some y =>
    obtain ⟨h1, h2⟩ := take_cut hm
    obtain ⟨b1, _, b3, _⟩ := getRp_back hg
    have h3 := getRp_more b3 b1 h2
    rw [← h1, getRp_put ho h] at h3
    cases h3
/-- the facts of what is put of a request -/
structure QF (t : List UInt8) (r : Rq) (n m : Nat) : Prop where
  pos : 0 < t.length
  le : t.length ≤ 100000
  get : getRq t = some r.canon
  put : putRq r.canon = some t
  cut : getRq (t.take m) = none
  more : getRq (t ++ [0]) = none
  other : getRp t = none
  rem : (n : Int).tmod (t.length : Int) = (m : Int)
  lt : m < t.length
  id : r.canon.id = r.id
  kind : r.canon.kind = r.kind
theorem QF.of {r : Rq} {t : List UInt8} (h : putRq r = some t) (n : Nat) : QF t r n (n % t.length) := by
  have hl := putRq_len h
  have hlt := Nat.mod_lt n hl.1
  have hg := getRq_put h
  exact ⟨hl.1, by omega, hg, (getRq_back hg).1, getRq_cut h hlt, getRq_more h (by simp), getR_one hg, by rw [Int.tmod_eq_emod_of_nonneg (by omega)]; rfl, hlt, (canon_nums r).2.2, (canon_nums r).2.1⟩
theorem canon_id (x : RpK) : x.canon.id = x.id ∧ x.canon.kind = x.kind := by
  unfold RpK.canon
  repeat (first | (split; exact ⟨rfl, rfl⟩) | exact ⟨rfl, rfl⟩)
structure PF (t : List UInt8) (x : RpK) (n m : Nat) : Prop where
  pos : 0 < t.length
  le : t.length ≤ 100000
  get : getRp t = some x.canon
  put : putRp x.canon = some t
  cut : getRp (t.take m) = none
  more : getRp (t ++ [0]) = none
  other : getRq t = none
  rem : (n : Int).tmod (t.length : Int) = (m : Int)
  lt : m < t.length
  id : x.canon.id = x.id
  kind : x.canon.kind = x.kind
  small : RpSmall x.canon
theorem PF.of {x : RpK} {t : List UInt8} (ho : RpOk x) (h : putRp x = some t) (n : Nat) : PF t x n (n % t.length) := by
  have hl := putRp_len ho h
  have hlt := Nat.mod_lt n hl.1
  have hg := getRp_put ho h
  refine ⟨hl.1, by omega, hg, (getRp_back hg).1, getRp_cut ho h hlt, getRp_more ho h (by simp), ?_, by rw [Int.tmod_eq_emod_of_nonneg (by omega)]; rfl, hlt, (canon_id x).1, (canon_id x).2, getRp_small hg⟩
  cases hq : getRq t with
  | none => rfl
  | some r => rw [getR_one hq] at hg; cases hg
theorem RpRaw.ok {w : World} {x : RpK} {vh ve vp : Value} {ds : List Sg} (h : RpRaw w x vh ve vp ds) : RpOk x :=
  ⟨fun k hk => by
    rw [← h.keys, List.mem_map] at hk
    obtain ⟨d, hd, rfl⟩ := hk
    exact ⟨(h.each d hd).r32, (h.each d hd).at_.len32⟩, h.proof.len32⟩
end Go.Proofs.Ytjpnlnbpaecciaa
