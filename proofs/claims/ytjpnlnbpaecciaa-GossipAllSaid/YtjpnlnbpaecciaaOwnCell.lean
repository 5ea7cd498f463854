/- A cell of a row of the call's own, written; a size of one of a row of signed heads. -/
import Derived.Test.YtjpnlnbpaecciaaSgRow
set_option maxRecDepth 100000
namespace Go.Spec
open Go.RowKit
theorem ownsRow_setCell {w : World} {base e size n cap g : Nat} {xs : List Value} (h : w.ownsRow base e size (.slice (some ⟨g, 0, none⟩) n cap) n xs) (j : Nat) (hj : j < n * size) (u : Value) :
    (w.setCell ⟨g, j, none⟩ u).ownsRow base e size (.slice (some ⟨g, 0, none⟩) n cap) n (xs.set j u) := by
  refine ⟨by rw [List.length_set]; exact h.1, ?_⟩
  rcases h.2 with ⟨h0, _⟩ | ⟨g', cap', cur, hv, hb, hg, hnc, hcm, hcs, htake⟩
  · cases h0
  · injection hv with h1 _ h3
    injection h1 with h1
    injection h1 with h1
    subst h1; subst h3
    refine .inr ⟨g, cap, cur.setIfInBounds j u, rfl, hb, ?_, hnc, hcm, by simpa using hcs, ?_⟩
    · simp [World.setCell, Array.getElem?_modify, hg]
    · rw [Array.toList_setIfInBounds, ← htake, List.take_set]
theorem ownsRow_free {w : World} {base e size n cap g : Nat} {xs : List Value} (h : w.ownsRow base e size (.slice (some ⟨g, 0, none⟩) n cap) n xs) (j : Nat) : w.frozen? ⟨g, j, none⟩ = false := by
  rcases h.2 with ⟨h0, _⟩ | ⟨g', cap', cur, hv, hb, hg, _⟩
  · cases h0
  · injection hv with h1 _ h3
    injection h1 with h1
    injection h1 with h1
    subst h1
    unfold World.frozen?
    rw [hg]; simp
def Sg.sized (d : Sg) (z : Int) : Sg := ⟨z, d.root, d.i, d.sig, d.path, d.a, d.cap⟩
theorem Sg.L_sized (d : Sg) (z : Int) : d.L.set 0 (.int .i64 z) = (d.sized z).L := rfl
theorem sgF_set : ∀ (ds : List Sg), (∀ d ∈ ds, d.root.length = 32) → ∀ (k : Nat) (z : Int) (hk : k < ds.length), (sgF ds).set (k * 36) (.int .i64 z) = sgF (ds.set k (ds[k].sized z))
  | [], _, k, z, hk => by simp at hk
  | d :: ds, h, 0, z, hk => by
    have hl : d.L.length = 36 := Sg.L_len (h d List.mem_cons_self)
    unfold sgF
    simp only [List.map_cons, List.flatten_cons, Nat.zero_mul, List.set_cons_zero, List.getElem_cons_zero]
    rw [List.set_append_left _ _ (by omega), Sg.L_sized]
  | d :: ds, h, k + 1, z, hk => by
    have hl : d.L.length = 36 := Sg.L_len (h d List.mem_cons_self)
    have ih := sgF_set ds (fun x hx => h x (List.mem_cons_of_mem _ hx)) k z (by simpa using hk)
    unfold sgF at *
    simp only [List.map_cons, List.flatten_cons, List.set_cons_succ, List.getElem_cons_succ]
    rw [List.set_append_right _ _ (by omega), hl, show (k + 1) * 36 - 36 = k * 36 by omega, ih]
theorem Sg.In.sized {w : World} {d : Sg} (h : d.In w) (z : Int) : (d.sized z).In w := ⟨h.r32, h.at_, h.sl, h.pl⟩
theorem own_get {w : World} {base e n cap g : Nat} {E : List Sg} (h : w.ownsRow base e 36 (.slice (some ⟨g, 0, none⟩) n cap) n (sgF E)) (h32 : ∀ d ∈ E, d.root.length = 32) {k : Nat} (hk : k < E.length) :
    ∀ j u, (E[k].L)[j]? = some u → w.cell? ((⟨g, k * 36, none⟩ : Addr).add j) = some u := by
  intro j u hj
  have hl : E[k].L.length = 36 := Sg.L_len (h32 _ (List.getElem_mem hk))
  have hj36 : j < 36 := by
    have := (List.getElem?_eq_some_iff.1 hj).1
    omega
  have hf := flat_getG 36 (E.map Sg.L) (fun x hx => by obtain ⟨d, hd, rfl⟩ := List.mem_map.1 hx; exact Sg.L_len (h32 d hd)) k (by simpa using hk) j hj36
  rw [List.getElem_map] at hf
  have := h.cells (g := g) rfl (k * 36 + j) u (by unfold sgF; rw [hf]; exact hj)
  rw [Addr.add_lit] at this ⊢
  rwa [Nat.zero_add] at this
theorem take_set_next {α : Type} (E : List α) (k : Nat) (y : α) (hk : k < E.length) : (E.set k y).take (k + 1) = E.take k ++ [y] := by
  rw [List.take_succ_eq_append_getElem (by rw [List.length_set]; exact hk), List.getElem_set_self, List.take_set_of_le (Nat.le_refl _)]
end Go.Spec
