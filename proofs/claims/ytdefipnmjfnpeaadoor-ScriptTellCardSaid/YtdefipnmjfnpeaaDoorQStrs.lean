/- slices of strings -/
import Derived.Test.YtdefipnmjfnpeaaDoorQBase

set_option maxRecDepth 100000
namespace Go.Proofs.YtdefipnmjfnpeaaDoor
open Go.RowKit Go.Spec
def scells (ls : List (List UInt8)) : List (List Value) := ls.map fun l => [sv l]
theorem scells_length (ls : List (List UInt8)) : (scells ls).length = ls.length := by simp [scells]
/-- a slice of strings, read as a list -/
def StrsAt (w : World) (v : Value) (ls : List (List UInt8)) : Prop := SlAt w 1 v (scells ls)
theorem StrsAt.below {w w' : World} {v : Value} {ls : List (List UInt8)} (h : StrsAt w v ls) (hb : Below w.heap.size w w') : StrsAt w' v ls := SlAt.below h hb (Nat.le_refl _)
theorem StrsAt.form {w : World} {v : Value} {ls : List (List UInt8)} (h : StrsAt w v ls) : ∃ a cap, v = .slice a ls.length cap ∧ ls.length ≤ cap := by
  have := SlAt.form h
  rwa [scells_length] at this
theorem StrsAt.at {w : World} {a : Option Addr} {n cap : Nat} {ls : List (List UInt8)} (h : StrsAt w (.slice a n cap) ls) {i : Nat} (hi : i < ls.length) :
    ∃ b o, a = some ⟨b, o, none⟩ ∧ b < w.heap.size ∧ w.cell? ⟨b, o + i, none⟩ = some (sv ls[i]) := by
  obtain ⟨b, o, e, h1, h2, h3⟩ := SlAt.at h (i := i) (cs := [sv ls[i]]) (by simp [scells, hi])
  have := h3 0 (sv ls[i]) rfl
  rw [Addr.add_lit] at this
  exact ⟨b, o, e, h1, by rw [Nat.mul_one, Nat.add_zero] at this; exact this⟩
theorem StrsAt.of_owns {w : World} {base e : Nat} {v : Value} {ls : List (List UInt8)} (h : w.ownsRow base e 1 v ls.length (ls.map sv)) : StrsAt w v ls := by
  rcases h.2 with ⟨rfl, h0⟩ | ⟨g, cap, cur, rfl, hb, hg, hnc, hcm, _⟩
  · obtain rfl : ls = [] := List.eq_nil_of_length_eq_zero h0
    exact ⟨none, 0, rfl, Nat.le_refl _, fun _ h => by simp [scells] at h, fun i cs h => by simp [scells] at h⟩
  · refine ⟨_, cap, by rw [scells_length], by rw [scells_length]; exact hnc, ?_, fun i cs hi => ⟨g, 0, rfl, (Array.getElem?_eq_some_iff.1 hg).1, fun j u hj => ?_⟩⟩
    · intro cs hcs
      simp only [scells, List.mem_map] at hcs
      obtain ⟨l, _, rfl⟩ := hcs
      rfl
    · have hi' : i < ls.length := by
        have := (List.getElem?_eq_some_iff.1 hi).1
        rwa [scells_length] at this
      simp only [scells, List.getElem?_map, List.getElem?_eq_getElem hi', Option.map_some] at hi
      injection hi with hi
      subst hi
      rcases j with _ | j
      · simp at hj
        subst hj
        have hx := h.cells (g := g) rfl i (sv ls[i]) (by simp [hi'])
        rw [Addr.add_lit] at hx
        rw [show 0 + i * 1 + 0 = 0 + i by omega]
        exact hx
      · simp at hj
theorem Blk.strs {w : World} {g t : Nat} {ls : List (List UInt8)} (h : Blk w g (ls.map sv).toArray t) (hn : ls.length ≤ maxLen) : StrsAt w (.slice (some ⟨g, 0, none⟩) ls.length ls.length) ls := by
  have := Blk.owns h (base := 0) (size := 1) (n := ls.length) (Nat.zero_le _) hn (by simp)
  exact StrsAt.of_owns (by simpa using this)
end Go.Proofs.YtdefipnmjfnpeaaDoor
