/- Opening the arguments of a law: numbers, strings, slices of hashes. -/
import Derived.Test.YtdefipnmjfnpeaaDoorQBase
import Derived.ProofKit
import Derived.OpenShut
import Derived.ShutString
import Derived.ChangeOld
import Derived.Deep.Slices
set_option maxRecDepth 100000
namespace Go.Spec
open Go.RowKit Go.Deep
variable {H : Type} {enc : TypeId × Value → H} {P : Program} {w : World} {base : Nat} {spare : Nat → Bool} {held : Bool}
theorem u64_of_wf {x : Int} (h : (Lit.int .u64 x).wf = true) : ∃ n : Nat, x = n ∧ n < 18446744073709551616 := by
  have h2 := h
  simp [Lit.wf, IntKind.has, IntKind.min, IntKind.max, IntKind.bits, IntKind.signed] at h2
  exact ⟨x.toNat, by omega, by omega⟩
theorem u16_of_wf {x : Int} (h : (Lit.int .u16 x).wf = true) : ∃ n : Nat, x = n ∧ n < 65536 := by
  have h2 := h
  simp [Lit.wf, IntKind.has, IntKind.min, IntKind.max, IntKind.bits, IntKind.signed] at h2
  exact ⟨x.toNat, by omega, by omega⟩
theorem u32_of_wf {x : Int} (h : (Lit.int .u32 x).wf = true) : ∃ n : Nat, x = n ∧ n < 4294967296 := by
  have h2 := h
  simp [Lit.wf, IntKind.has, IntKind.min, IntKind.max, IntKind.bits, IntKind.signed] at h2
  exact ⟨x.toNat, by omega, by omega⟩
theorem i64_of_wf {x : Int} (h : (Lit.int .i64 x).wf = true) : -9223372036854775808 ≤ x ∧ x ≤ 9223372036854775807 := by
  have h2 := h
  simp [Lit.wf, IntKind.has, IntKind.min, IntKind.max, IntKind.bits, IntKind.signed] at h2
  omega
theorem u8_of_wf {x : Int} (h : (Lit.int .u8 x).wf = true) : ∃ b : UInt8, Value.int .u8 x = bcell b := by
  have h2 := h
  simp [Lit.wf, IntKind.has, IntKind.min, IntKind.max, IntKind.bits, IntKind.signed] at h2
  refine ⟨UInt8.ofNat x.toNat, ?_⟩
  rw [← bcell_mk _ (by omega)]
  congr 1
  omega
theorem mem_of_cells {a : Addr} {n : Nat} {cs : List Value} (h : w.cells? base a n = some cs) : cs.length = n ∧ ∀ j u, cs[j]? = some u → w.cell? (a.add j) = some u := by
  obtain ⟨_, hl, hc⟩ := World.cells?_some h
  refine ⟨hl, fun j u hj => ?_⟩
  have hj' : j < n := by
    have := (List.getElem?_eq_some_iff.1 hj).1
    omega
  rw [hc j hj']; exact hj
/-- an array of bytes -/
theorem open_bytes {fuel n : Nat} {t e : TypeId} {cs : List Value} {x : DataW H × List MemPlace} (ht : P.underlying t = some (.array n e)) (he : P.underlying e = some (.int .u8)) (hce : P.cellsOf e = 1)
    (h : DataW.trod enc P w base spare held fuel t cs = some x) (hl : cs.length = n) : ∃ l : List UInt8, cs = l.map bcell ∧ l.length = n := by
  obtain ⟨xs, m, rfl, rfl, _, hxs, hx⟩ := DataW.trod_array ht h
  rw [hce] at hx
  have hall : ∀ i (hi : i < cs.length), ∃ b : UInt8, cs[i] = bcell b := by
    intro i hi
    have h1 := hx i (by omega)
    rw [Nat.mul_one, List.drop_eq_getElem_cons hi, List.take_succ_cons, List.take_zero] at h1
    rw [List.getElem?_eq_getElem (by omega)] at h1
    obtain ⟨q, hq, _, hwf⟩ := DataW.trod_int he h1
    obtain ⟨b, hb⟩ := u8_of_wf hwf
    refine ⟨b, ?_⟩
    injection hq with hq
    rw [hq, hb]
  have : ∀ (cs : List Value), (∀ i (hi : i < cs.length), ∃ b : UInt8, cs[i] = bcell b) → ∃ l : List UInt8, cs = l.map bcell := by
    intro cs
    induction cs with
    | nil => intro _; exact ⟨[], rfl⟩
    | cons c cs ih =>
      intro h
      obtain ⟨b, hb⟩ := h 0 (by simp)
      obtain ⟨l, hl⟩ := ih (fun i hi => by
        obtain ⟨b, hb⟩ := h (i + 1) (by simp; omega)
        exact ⟨b, by rw [← hb]; rfl⟩)
      refine ⟨b :: l, ?_⟩
      simp at hb
      rw [hb, hl]; rfl
  obtain ⟨l, rfl⟩ := this cs hall
  exact ⟨l, rfl, by simpa using hl⟩
theorem choose_list {α : Type} {p : Nat → α → Prop} : ∀ n, (∀ i, i < n → ∃ x, p i x) → ∃ l : List α, l.length = n ∧ ∀ i (hi : i < l.length), p i l[i]
  | 0, _ => ⟨[], rfl, fun i hi => by simp at hi⟩
  | n + 1, h => by
    obtain ⟨l, hl, hp⟩ := choose_list n (fun i hi => h i (by omega))
    obtain ⟨x, hx⟩ := h n (by omega)
    refine ⟨l ++ [x], by simp [hl], fun i hi => ?_⟩
    rcases Nat.lt_or_ge i l.length with h1 | h1
    · rw [List.getElem_append_left h1]; exact hp i h1
    · have : i = l.length := by simp at hi; omega
      subst this
      simpa [hl] using hx
theorem open_hashes {fuel : Nat} {t th e : TypeId} {v : Value} {x : DataW H × List MemPlace} (ht : P.underlying t = some (.slice th)) (hth : P.underlying th = some (.array 32 e)) (he : P.underlying e = some (.int .u8)) (hce : P.cellsOf e = 1) (hcth : P.cellsOf th = 32)
    (h : DataW.trod enc P w base spare held fuel t [v] = some x) : ∃ hs : List (List UInt8), hs.length ≤ maxLen ∧ SlAt w 32 v (hcs hs) := by
  rcases open_slice ht h with ⟨hcs0, _⟩ | ⟨a, len, cap, m, n, D, Pl, hcs0, hb, hl, hm, hmm, _, hx⟩
  · injection hcs0 with hv
    subst hv
    exact ⟨[], by simp, none, 0, rfl, Nat.le_refl _, fun _ h => by simp [hcs] at h, fun i cs h => by simp [hcs] at h⟩
  · injection hcs0 with hv
    subst hv
    have hlm : len ≤ m := by rw [hmm]; split <;> omega
    rw [hcth] at hx
    obtain ⟨hs, hhl, hhs⟩ := choose_list (α := List UInt8) (p := fun i l => l.length = 32 ∧ ∀ j u, (l.map bcell)[j]? = some u → w.cell? ((a.add (i * 32)).add j) = some u) len (fun i hi => by
      obtain ⟨cs', h1, h2⟩ := hx i (by omega)
      obtain ⟨hlc, hcells⟩ := mem_of_cells h1
      obtain ⟨l, rfl, hl32⟩ := open_bytes hth he hce h2 hlc
      exact ⟨l, hl32, hcells⟩)
    have hspot : 0 < len → a.spot = none := fun h0 => by
      obtain ⟨h1, h2⟩ := hhs 0 (by omega)
      have := h2 0 (bcell (hs[0]'(by omega))[0]) (by simp [h1])
      have h3 : (a.add (0 * 32)).add 0 = a := by simp [Addr.add]
      rw [h3] at this
      exact World.cell?_spot this
    refine ⟨hs, by omega, some a, cap, by rw [hcs_length, hhl], by rw [hcs_length, hhl]; exact hl, ?_, ?_⟩
    · intro cs hcs'
      simp only [hcs, List.mem_map] at hcs'
      obtain ⟨l, hlm2, rfl⟩ := hcs'
      obtain ⟨i, hi, rfl⟩ := List.mem_iff_getElem.1 hlm2
      simpa using (hhs i hi).1
    · intro i cs hi
      have hi' : i < hs.length := by
        have := (List.getElem?_eq_some_iff.1 hi).1
        rwa [hcs_length] at this
      have hcs2 : cs = hs[i].map bcell := by
        simp only [hcs, List.getElem?_map, List.getElem?_eq_getElem hi', Option.map_some] at hi
        injection hi with hi
        exact hi.symm
      obtain ⟨h32, hcell⟩ := hhs i hi'
      obtain ⟨b, o, sp⟩ := a
      have hs0 := hspot (by omega)
      simp only at hs0
      subst hs0
      have hadd : ∀ j, ((⟨b, o, none⟩ : Addr).add (i * 32)).add j = ⟨b, o + i * 32 + j, none⟩ := fun j => by rw [Addr.add_lit, Addr.add_lit]
      refine ⟨b, o, rfl, ?_, fun j u hj => ?_⟩
      · have := hcell 0 (bcell (hs[i])[0]) (by simp [h32])
        rw [hadd] at this
        exact World.block_lt_of_cell? w _ this
      · subst hcs2
        have := hcell j u hj
        rwa [hadd] at this
end Go.Spec
