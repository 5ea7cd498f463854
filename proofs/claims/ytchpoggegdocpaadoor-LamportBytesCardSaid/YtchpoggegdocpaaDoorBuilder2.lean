/- (*strings.Builder).WriteByte -/
import Derived.Test.YtchpoggegdocpaaDoorBuilder
import Derived.Test.YtchpoggegdocpaaDoorBase4
set_option maxRecDepth 100000
namespace Go.Proofs.YtchpoggegdocpaaDoor
open Go.RowKit Go.Spec
set_option maxHeartbeats 1000000 in
theorem wb_any (g : Nat) (r : Option Nat) (l : List UInt8) (b : UInt8) (w : World) (h : Bld g r l w) (hlen : l.length + 1 ≤ 140737488355328) :
    Calls Tryd.prog 48 #[.pointer (some ⟨g, 0, none⟩), .int .u8 (b.toNat : Int)] w fun e w' => e = .returned .nilIface ∧ BldW g r (l ++ [b]) w w' := by
  obtain ⟨i0, hi, hz0, hz1, hz2⟩ := info_parts Tryd.infoU8b
  obtain ⟨p, v, hb, hp, hown, rfl⟩ := h
  have hglt : g < w.heap.size := (Array.getElem?_eq_some_iff.1 hb).1
  have hgr : ∀ k, v.ownBlock = some k → k ≠ g := fun k hk => by have := hown.lt k hk; omega
  have Hb := hid hb; clear hb
  have Hlen := hid (show l.length + 1 ≤ maxLen by unfold maxLen; omega)
  go_enter Tryd.func48, Tryd.ntmps48
  go_wp2_with (first
    | (go_at_call 53; refine (copyCheck_any g p v _ Hb.out hp).mono ?_; rintro e w1 ⟨rfl, hcc⟩; have c1 : w1.cell? ⟨g, 1, none⟩ = some v := by (rw [Lib.cell_of_heap hcc.hb]; rfl))
    | (at_builtin; refine wpList_app rfl _ _ 35 rfl (g + 1) 5 i0 (.int .u8 0) 1 1 Tryd.underlying35 hi hz0 hz1 hz2 rfl (by decide) v l.length (l.map bcell) rfl ?c1 ⟨w1.heap.size, 0, none⟩ 1 1 [bcell b] rfl rfl ?c2 ?c3 Hlen.out (by omega) ?c4 ?_))
  case c1 => exact (ownsRow_fr hown hcc.fr (fun k hk => hgr k hk)).alloc _
  case c2 =>
    intro j u hu
    exact (Blk.new w1 #[bcell b] 5).cells j u hu
  case c3 => intro u hu; simp at hu; subst hu; rfl
  case c4 => have := hcc.size; simp; omega
  intro v' w2 hown0 hgrow hat
  have hown' : w2.ownsRow (g + 1) 5 1 v' (l ++ [b]).length ((l ++ [b]).map bcell) := by simpa using hown0
  clear hown0
  obtain ⟨a', cap', rfl, hcap⟩ := ownsRow_form hown'
  have hb2 : w2.heap[g]? = some (.cells #[.pointer (some ⟨g, 0, none⟩), v] 66 (0, 0)) :=
    (hgrow.block g (by have := hcc.size; simp; omega) (fun h => hgr g h.symm rfl)).trans ((Blk.alloc (g := g) hcc.hb _))
  have c2 : w2.cell? ⟨g, 1, none⟩ = some v := by rw [Lib.cell_of_heap hb2]; rfl
  have f2 : w2.frozen? ⟨g, 1, none⟩ = false := Lib.frozen_of_heap hb2 1
  have Hat := hid hat
  have Hb2 := hid hb2
  clear hat hb2 hgr hcap
  go_wp2
  go_ret
  have hne : ∀ k, (Value.slice a' (l ++ [b]).length cap').ownBlock = some k → k ≠ g := fun k hk => by have := hown'.lt k hk; omega
  refine ⟨rfl, ⟨⟨_, ⟨_, _, ?_, .inr rfl, ownsRow_fr hown' (Fr.setCell _ _ _ _) hne, rfl⟩, ?_⟩, ?_⟩⟩
  · simp [World.setCell, Array.getElem?_modify, Hb2.out]
  · intro k hk
    rcases Hat.out k hk with h | h
    · exact .inl h
    · exact .inr (by have := hcc.size; omega)
  · have h11 : Fr (fun k => k = g ∨ v.ownBlock = some k) w1 (w1.alloc (.cells #[bcell b] 5)) := Fr.of_below ((Below.refl _ _).alloc (Nat.le_refl _) _) _
    have h12 : Fr (fun k => k = g ∨ v.ownBlock = some k) (w1.alloc (.cells #[bcell b] 5)) w2 := ⟨hgrow.os, hgrow.tape, hgrow.output, hgrow.size, fun k hk hn => hgrow.block k hk (fun h => hn (.inr h.symm))⟩
    exact (((hcc.fr.mono (fun k _ hk => .inl hk)).trans h11).trans h12).trans ((Fr.setCell _ _ _ _).mono (fun k _ hk => .inl hk))
end Go.Proofs.YtchpoggegdocpaaDoor
