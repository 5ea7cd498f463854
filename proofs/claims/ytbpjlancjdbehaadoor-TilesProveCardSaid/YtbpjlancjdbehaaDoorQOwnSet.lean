/- A row of hashes that the call made: one stored at its place; a lower base. -/
import Derived.Test.YtbpjlancjdbehaaDoorQAnyOp
import Derived.Test.YtbpjlancjdbehaaDoorQHashRow

set_option maxRecDepth 100000
namespace Go.Spec
open Go.RowKit
variable {P : Program} {w : World}
theorem take_mid {α : Type} (A m : List α) (a N : Nat) (h1 : a + m.length ≤ N) (h2 : N ≤ A.length) : (A.take a ++ m ++ A.drop (a + m.length)).take N = (A.take N).take a ++ m ++ (A.take N).drop (a + m.length) := by
  have hl : (A.take a ++ m).length = a + m.length := by rw [List.length_append, List.length_take]; omega
  rw [List.take_append, hl, List.take_of_length_le (by omega), List.take_take, Nat.min_eq_left (by omega), List.drop_take]
theorem run_store_own (ty : TypeId) (base e g cap n k : Nat) (hs : List (List UInt8)) (l : List UInt8) (hown : w.ownsRow base e 32 (.slice (some ⟨g, 0, none⟩) n cap) n (hflat hs)) (h32 : ∀ x ∈ hs, x.length = 32) (hn : hs.length = n) (hl : l.length = 32) (hk : k < n)
    (hi : (P.info? ty).map (·.size) = some 32) :
    ∃ w', (storeVar ty ⟨g, k * 32, none⟩ (hv l)).run P w = .ok () w' ∧ w'.ownsRow base e 32 (.slice (some ⟨g, 0, none⟩) n cap) n (hflat (hs.set k l)) ∧ w.grownBy w' (some g) := by
  rcases hown.2 with ⟨h', _⟩ | ⟨g', cap', cur, h', hb, hg, hnc, hcm, hcs, htake⟩
  · simp at h'
  · simp only [Value.slice.injEq, Option.some.injEq, Addr.mk.injEq, and_true, true_and] at h'
    obtain ⟨rfl, rfl⟩ := h'
    have hfit : k * 32 + l.length ≤ cur.size := by rw [hcs, hl]; omega
    have hcl : n * 32 ≤ cur.toList.length := by rw [Array.length_toList, hcs]; exact Nat.mul_le_mul_right _ hnc
    refine ⟨_, run_storeVar_part ty g (k * 32) cur e l hg hfit (by rw [hl]; exact hi), ⟨?_, .inr ⟨g, cap, _, rfl, hb, setRow_get hg, hnc, hcm, ?_, ?_⟩⟩, ⟨rfl, rfl, rfl, by simp [World.setRow], fun j _ hj => setRow_ne (fun h => hj (by rw [h]))⟩⟩
    · unfold hflat
      rw [List.length_map, flatten_len (fun x hx => by
        rcases List.mem_or_eq_of_mem_set hx with h1 | h1
        · exact h32 x h1
        · rw [h1]; exact hl), List.length_set, hn]
    · simp only [List.size_toArray, List.length_append, List.length_take, List.length_drop, List.length_map, Array.length_toList]
      omega
    · have e1 : l.length = (l.map bcell).length := by simp
      rw [List.toList_toArray, e1, take_mid _ _ _ _ (by rw [← e1, hl]; omega) hcl, htake]
      unfold hflat
      rw [flatten_set hs h32 k l hl (by omega), List.map_append, List.map_append, List.map_take, List.map_drop, ← e1, hl]
theorem wpList_store_own {ops : Array Oper} {rest : List Oper} {o : Oper} {a : Act} {Q : Exit → Act → World → Prop} (hgd : o.guard = none) (ty : TypeId) (x y : Operand) (ho : o.op = .store ty x y)
    (base e g cap n k : Nat) (hx : a.eval x = .pointer (some ⟨g, k * 32, none⟩)) (l : List UInt8) (hy : a.eval y = hv l) (hs : List (List UInt8)) (hown : w.ownsRow base e 32 (.slice (some ⟨g, 0, none⟩) n cap) n (hflat hs)) (h32 : ∀ x ∈ hs, x.length = 32) (hn : hs.length = n) (hl : l.length = 32) (hk : k < n)
    (hi : (P.info? ty).map (·.size) = some 32)
    (h : ∀ w', w'.ownsRow base e 32 (.slice (some ⟨g, 0, none⟩) n cap) n (hflat (hs.set k l)) → w.grownBy w' (some g) → wpList P ops Q rest (a.put o.dst undef) w') : wpList P ops Q (o :: rest) a w :=
  wpList_plain hgd fun _ hK => by
    obtain ⟨w', hr, h1, h2⟩ := run_store_own (P := P) (w := w) ty base e g cap n k hs l hown h32 hn hl hk hi
    unfold Oper.wp execOp
    simp only [ho, hx, hy, Instr.storeAt, Instr.sureAddr, Sem.run_bind, Sem.run_pure, Result.andThen_ok, hr]
    exact hK _ _ (h w' h1 h2)
end Go.Spec
