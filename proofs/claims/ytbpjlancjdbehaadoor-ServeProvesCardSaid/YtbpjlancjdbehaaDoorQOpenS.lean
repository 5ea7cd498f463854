/- Opening an argument that is a slice of strings, or a number of 8 bits with a sign. -/
import Derived.Test.YtbpjlancjdbehaaDoorQOpen
import Derived.Test.YtbpjlancjdbehaaDoorQSg
import Derived.SliceStrings
set_option maxRecDepth 100000
namespace Go.Proofs.YtbpjlancjdbehaaDoor
open Go.RowKit Go.Deep Go.Spec Go.ChangeShapes
variable {H : Type} {enc : TypeId × Value → H} {P : Program} {w : World} {base : Nat} {spare : Nat → Bool} {held : Bool}
theorem i8_of_wf {x : Int} (h : (Lit.int .i8 x).wf = true) : -128 ≤ x ∧ x ≤ 127 := by
  have h2 := h
  simp [Lit.wf, IntKind.has, IntKind.min, IntKind.max, IntKind.bits, IntKind.signed] at h2
  omega
theorem open_strs {fuel : Nat} {t e : TypeId} {v : Value} {x : DataW H × List MemPlace} (ht : P.underlying t = some (.slice e)) (he : P.underlying e = some .string) (hce : P.cellsOf e = 1)
    (h : DataW.trod enc P w base spare held fuel t [v] = some x) : ∃ ls : List (List UInt8), ls.length ≤ maxLen ∧ StrsAt w v ls := by
  rcases open_strings ht he hce h with ⟨hcs, _⟩ | ⟨a, len, cap, ss, hcs, hb, hl, hcm, hss, _, hcell, _⟩
  · injection hcs with hv
    subst hv
    exact ⟨[], by simp, none, 0, rfl, Nat.le_refl _, fun _ h => by simp [scells] at h, fun i cs h => by simp [scells] at h⟩
  · injection hcs with hv
    subst hv
    have hlen : len ≤ ss.length := by rw [hss]; split <;> omega
    have hll : ((ss.take len).map bl).length = len := by simp; omega
    refine ⟨(ss.take len).map bl, by omega, some a, cap, by rw [scells_length, hll], by rw [scells_length, hll]; exact hl, ?_, ?_⟩
    · intro cs hcs
      simp only [scells, List.mem_map] at hcs
      obtain ⟨l, _, rfl⟩ := hcs
      rfl
    · intro i cs hi
      have hi' : i < len := by
        have := (List.getElem?_eq_some_iff.1 hi).1
        rwa [scells_length, hll] at this
      have hc := hcell i (by omega)
      obtain ⟨b, o, sp⟩ := a
      have hsp : sp = none := by
        have := World.cell?_spot (hcell 0 (by omega))
        simpa [Addr.add] using this
      subst hsp
      rw [Addr.add_lit] at hc
      refine ⟨b, o, rfl, World.block_lt_of_cell? w _ hc, fun j u hj => ?_⟩
      have hcs2 : cs = [.string (ss.getD i ByteArray.empty)] := by
        simp only [scells, List.getElem?_map, List.map_map] at hi
        rw [List.getElem?_take_of_lt hi', List.getElem?_eq_getElem (by omega)] at hi
        simp only [Option.map_some] at hi
        injection hi with hi
        rw [← hi, List.getD_eq_getElem?_getD, List.getElem?_eq_getElem (by omega)]
        show [Value.string (mkS (bl _))] = _
        rw [mkS_bl]; rfl
      subst hcs2
      rcases j with _ | j
      · simp at hj
        subst hj
        rw [show o + i * 1 + 0 = o + i by omega]
        simpa using hc
      · simp at hj
end Go.Proofs.YtbpjlancjdbehaaDoor
