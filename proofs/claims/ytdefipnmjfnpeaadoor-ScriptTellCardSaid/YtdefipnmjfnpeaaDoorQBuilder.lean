/- strings.Builder: a builder that the call itself made: WriteString, WriteByte, String. The builder's block is g; its bytes lie in the row r. -/
import Derived.Test.YtdefipnmjfnpeaaDoorQBase
import Derived.Test.YtdefipnmjfnpeaaDoorProg
import Derived.Lib.Builder
import Derived.Lib.UnsafeStr
set_option maxRecDepth 100000
namespace Go.Spec
open Go.RowKit
/-- all blocks but those of S are as they were -/
structure Fr (S : Nat → Prop) (w w' : World) : Prop where
  os : w'.os = w.os
  tape : w'.tape = w.tape
  output : w'.output = w.output
  size : w.heap.size ≤ w'.heap.size
  block : ∀ k, k < w.heap.size → ¬ S k → w'.heap[k]? = w.heap[k]?
theorem Fr.below {S : Nat → Prop} {w w' : World} (h : Fr S w w') {B : Nat} (hB : B ≤ w.heap.size) (hS : ∀ k, S k → B ≤ k) : Below B w w' :=
  ⟨h.os, h.tape, h.output, h.size, fun k hk => h.block k (by omega) (fun hs => by have := hS k hs; omega)⟩
theorem Fr.of_below {w w' : World} (h : Below w.heap.size w w') (S : Nat → Prop) : Fr S w w' := ⟨h.os, h.tape, h.output, h.size, fun k hk _ => h.block k hk⟩
theorem Fr.mono {S S' : Nat → Prop} {w w' : World} (h : Fr S w w') (hS : ∀ k, k < w.heap.size → S k → S' k) : Fr S' w w' := ⟨h.os, h.tape, h.output, h.size, fun k hk hn => h.block k hk (fun hs => hn (hS k hk hs))⟩
theorem Fr.trans {S : Nat → Prop} {a b c : World} (h : Fr S a b) (k : Fr S b c) : Fr S a c :=
  ⟨k.os.trans h.os, k.tape.trans h.tape, k.output.trans h.output, Nat.le_trans h.size k.size, fun i hi hn => (k.block i (Nat.lt_of_lt_of_le hi h.size) hn).trans (h.block i hi hn)⟩
def IsB (T e g : Nat) (r : Option Nat) (l : List UInt8) (w : World) : Prop :=
  ∃ p v, w.heap[g]? = some (.cells #[p, v] T (0, 0)) ∧ (p = .pointer none ∨ p = .pointer (some ⟨g, 0, none⟩)) ∧ w.ownsRow (g + 1) e 1 v l.length (l.map bcell) ∧ v.ownBlock = r
theorem IsB.row {T e g : Nat} {r : Option Nat} {l : List UInt8} {w : World} (h : IsB T e g r l w) : ∀ k, r = some k → g < k ∧ k < w.heap.size := by
  obtain ⟨p, v, _, _, hown, hr⟩ := h
  intro k hk
  have := hown.lt k (hr.trans hk)
  omega
theorem IsB.lt {T e g : Nat} {r : Option Nat} {l : List UInt8} {w : World} (h : IsB T e g r l w) : g < w.heap.size := by
  obtain ⟨p, v, hb, _⟩ := h
  exact (Array.getElem?_eq_some_iff.1 hb).1
theorem IsB.fresh (T e : Nat) (w : World) : IsB T e w.heap.size none [] (w.alloc (.cells #[.pointer none, .slice none 0 0] T)) :=
  ⟨_, _, heap_alloc_new w _, .inl rfl, World.ownsRow_nil _ _ _ _, rfl⟩
theorem IsB.kept {T e g : Nat} {r : Option Nat} {l : List UInt8} {w w' : World} (h : IsB T e g r l w) {S : Nat → Prop} (hf : Fr S w w') (hg : ¬ S g) (hr : ∀ k, r = some k → ¬ S k) : IsB T e g r l w' := by
  have hlt := h.lt
  have hrow := h.row
  obtain ⟨p, v, hb, hp, hown, hv⟩ := h
  refine ⟨p, v, (hf.block g hlt hg).trans hb, hp, ⟨hown.1, ?_⟩, hv⟩
  rcases hown.2 with hn | ⟨k, cap, cur, rfl, hbk, hgk, rest⟩
  · exact .inl hn
  · refine .inr ⟨k, cap, cur, rfl, hbk, ?_, rest⟩
    have hk : r = some k := by rw [← hv]; rfl
    rw [hf.block k (hrow k hk).2 (hr k hk)]; exact hgk
theorem IsB.below {T e g : Nat} {r : Option Nat} {l : List UInt8} {w w' : World} (h : IsB T e g r l w) (hf : Below w.heap.size w w') : IsB T e g r l w' :=
  h.kept (Fr.of_below hf (fun _ => False)) (fun h => h) (fun _ _ h => h)
theorem Fr.drew {S : Nat → Prop} {a w : World} (h : Fr S a w) : Fr S a w.drew := ⟨h.os, h.tape, h.output, h.size, h.block⟩
theorem Fr.refl (S : Nat → Prop) (w : World) : Fr S w w := ⟨rfl, rfl, rfl, Nat.le_refl _, fun _ _ _ => rfl⟩
theorem Fr.freeze {S : Nat → Prop} {a w : World} (h : Fr S a w) {p : Addr} (hp : S p.block) (n : Nat) : Fr S a (w.freeze p n) := by
  unfold World.freeze
  split
  · exact h
  · refine ⟨h.os, h.tape, h.output, by simp; exact h.size, fun k hk hn => ?_⟩
    rw [← h.block k hk hn]
    simp only [Array.getElem?_modify]
    rw [if_neg (fun (e : p.block = k) => hn (e ▸ hp))]
theorem ownsRow_fr {base e size n : Nat} {v : Value} {xs : List Value} {w w' : World} (hown : w.ownsRow base e size v n xs) {S : Nat → Prop} (hf : Fr S w w') (hr : ∀ k, v.ownBlock = some k → ¬ S k) : w'.ownsRow base e size v n xs := by
  have hlt := hown.lt
  refine ⟨hown.1, ?_⟩
  rcases hown.2 with hn | ⟨k, cap, cur, rfl, hbk, hgk, rest⟩
  · exact .inl hn
  · exact .inr ⟨k, cap, cur, rfl, hbk, by rw [hf.block k (hlt k rfl).2 (hr k rfl)]; exact hgk, rest⟩
theorem Fr.setCell (w : World) (g j : Nat) (v : Value) : Fr (fun k => k = g) w (w.setCell ⟨g, j, none⟩ v) :=
  ⟨rfl, rfl, rfl, by simp [World.setCell], fun k _ hk => Below.heap_setCell _ _ _ _ hk⟩
/-- what a method that writes leaves -/
structure BW (T e g : Nat) (r : Option Nat) (l : List UInt8) (w w' : World) : Prop where
  ex : ∃ r', IsB T e g r' l w' ∧ (∀ k, r' = some k → r = some k ∨ w.heap.size ≤ k)
  fr : Fr (fun k => k = g ∨ r = some k) w w'
theorem BW.below {T e g : Nat} {r : Option Nat} {l l0 : List UInt8} {w w' : World} (h0 : IsB T e g r l0 w) (h : BW T e g r l w w') : Below g w w' :=
  h.fr.below (Nat.le_of_lt h0.lt) (fun k hk => by
    rcases hk with rfl | hk
    · exact Nat.le_refl _
    · exact Nat.le_of_lt (h0.row k hk).1)
end Go.Spec
namespace Go.Proofs.YtdefipnmjfnpeaaDoor
open Go.RowKit Go.Spec
theorem Tryd.sizeBuilder : (Tryd.prog.info? 52).map (·.size) = some 2 := by kernel_rfl
theorem Tryd.liesBuilder : liesAt Tryd.prog Tryd.prog.depth 52 (2 / Tryd.prog.cellsOf 52) 0 52 1 = true := by kernel_rfl
theorem Tryd.cellsU8 : Tryd.prog.cellsOf 5 = 1 := by kernel_rfl
theorem Tryd.infoU8b : (Tryd.prog.info? 5).map (fun i => (i.zero, i.size, i.bytes)) = some (some (.int .u8 0), 1, 1) := by kernel_rfl
abbrev Bld (g : Nat) (r : Option Nat) (l : List UInt8) (w : World) : Prop := IsB 52 5 g r l w
abbrev BldW (g : Nat) (r : Option Nat) (l : List UInt8) (w w' : World) : Prop := BW 52 5 g r l w w'
set_option maxHeartbeats 1000000 in
set_option maxRecDepth 100000 in
theorem copyCheck_used (b : Nat) (w : World) (h0 : w.cell? ⟨b, 0, none⟩ = some (.pointer (some ⟨b, 0, none⟩))) :
    Calls Tryd.prog 36 #[.pointer (some ⟨b, 0, none⟩)] w fun e w' => e = .returned (.tuple #[]) ∧ w' = w := by
  obtain ⟨j, hj, _⟩ := Option.map_eq_some_iff.1 Tryd.sizeBuilder
  go_enter Tryd.func36, Tryd.ntmps36
  go_wp2
  rw [Lib.run_neq_ptr_same w _ Tryd.underlying49 hj]
  go_wp2
  go_end0
  exact ⟨rfl, rfl⟩
set_option maxHeartbeats 1000000 in
set_option maxRecDepth 100000 in
theorem copyCheck_fresh (b : Nat) (w : World) (h0 : w.cell? ⟨b, 0, none⟩ = some (.pointer none)) (hsh : w.shape? b = some (52, 2)) (hfz : w.frozen? ⟨b, 0, none⟩ = false) :
    Calls Tryd.prog 36 #[.pointer (some ⟨b, 0, none⟩)] w fun e w' => e = .returned (.tuple #[]) ∧ w' = w.setCell ⟨b, 0, none⟩ (.pointer (some ⟨b, 0, none⟩)) := by
  obtain ⟨j, hj, hjs⟩ := Option.map_eq_some_iff.1 Tryd.sizeBuilder
  go_enter Tryd.func36, Tryd.ntmps36
  go_wp2
  rw [Lib.run_to_unsafe w ⟨b, 0, none⟩ Tryd.underlying49 Tryd.underlying84 hj (by rw [hjs]; decide) hsh (Nat.zero_lt_succ 1)]
  simp only [Result.andThen]
  rw [Oper.upon_value]
  go_wp2
  rw [run_callFunc_extern Tryd.func46 (by kernel_rfl) (by kernel_rfl) (by kernel_rfl) (e := Extern.AbiNoEscape.same) (by kernel_rfl)]
  rw [Lib.run_noEscape]
  simp only [Result.andThen]
  rw [Oper.upon_value]
  go_wp2
  rw [Lib.run_from_unsafe w ⟨b, 0, none⟩ Tryd.underlying84 Tryd.underlying49 hj hsh Tryd.liesBuilder]
  simp only [Result.andThen]
  rw [Oper.upon_value]
  go_wp2
  go_end0
  exact ⟨rfl, rfl⟩
/-- behind copyCheck: the block written out -/
structure CC (b : Nat) (v : Value) (w w' : World) : Prop where
  hb : w'.heap[b]? = some (.cells #[.pointer (some ⟨b, 0, none⟩), v] 52 (0, 0))
  fr : Fr (fun k => k = b) w w'
  size : w'.heap.size = w.heap.size
theorem copyCheck_any (b : Nat) (p v : Value) (w : World) (hb : w.heap[b]? = some (.cells #[p, v] 52 (0, 0))) (hp : p = .pointer none ∨ p = .pointer (some ⟨b, 0, none⟩)) :
    Calls Tryd.prog 36 #[.pointer (some ⟨b, 0, none⟩)] w fun e w' => e = .returned (.tuple #[]) ∧ CC b v w w' := by
  rcases hp with rfl | rfl
  · refine (copyCheck_fresh b w (by rw [Lib.cell_of_heap hb]; rfl) (by simp [World.shape?, hb]) (Lib.frozen_of_heap hb 0)).mono ?_
    rintro e w' ⟨rfl, rfl⟩
    refine ⟨rfl, ?_, ⟨rfl, rfl, rfl, by simp [World.setCell], fun k _ hk => Below.heap_setCell _ _ _ _ hk⟩, by simp [World.setCell]⟩
    simp [World.setCell, Array.getElem?_modify, hb]
  · refine (copyCheck_used b w (by rw [Lib.cell_of_heap hb]; rfl)).mono ?_
    rintro e w' ⟨rfl, rfl⟩
    exact ⟨rfl, hb, ⟨rfl, rfl, rfl, Nat.le_refl _, fun _ _ _ => rfl⟩, rfl⟩
set_option maxHeartbeats 1000000 in
set_option maxRecDepth 100000 in
theorem ws_any (g : Nat) (r : Option Nat) (l s : List UInt8) (w : World) (h : Bld g r l w) (hlen : l.length + s.length ≤ 140737488355328) :
    Calls Tryd.prog 19 #[.pointer (some ⟨g, 0, none⟩), sv s] w fun e w' => e = .returned (.tuple #[.int .i64 s.length, .nilIface]) ∧ BldW g r (l ++ s) w w' := by
  obtain ⟨i0, hi, hz0, hz1, hz2⟩ := info_parts Tryd.infoU8b
  obtain ⟨p, v, hb, hp, hown, rfl⟩ := h
  have hglt : g < w.heap.size := (Array.getElem?_eq_some_iff.1 hb).1
  have hgr : ∀ k, v.ownBlock = some k → k ≠ g := fun k hk => by have := hown.lt k hk; omega
  have Hb := hid hb; clear hb
  go_enter Tryd.func19, Tryd.ntmps19
  go_wp2_with (first
    | (go_at_call 36; refine (copyCheck_any g p v _ Hb.out hp).mono ?_; rintro e w1 ⟨rfl, hcc⟩; have c1 : w1.cell? ⟨g, 1, none⟩ = some v := by (rw [Lib.cell_of_heap hcc.hb]; rfl))
    | (at_builtin; refine wpList_app_str rfl _ _ 50 9 rfl (g + 1) 5 i0 Tryd.underlying50 Tryd.underlying9 hi hz0 hz1 hz2 v l s rfl ?c1 rfl hlen ?c2 ?_))
  case c1 => exact ownsRow_fr hown hcc.fr (fun k hk => hgr k hk)
  case c2 => rw [hcc.size]; omega
  intro v' w2 hown0 hgrow hat
  have hown' : w2.ownsRow (g + 1) 5 1 v' (l ++ s).length ((l ++ s).map bcell) := by simpa using hown0
  clear hown0
  obtain ⟨a', cap', rfl, hcap⟩ := ownsRow_form hown'
  have hb2 : w2.heap[g]? = some (.cells #[.pointer (some ⟨g, 0, none⟩), v] 52 (0, 0)) :=
    (hgrow.block g (by rw [hcc.size]; omega) (fun h => hgr g h.symm rfl)).trans hcc.hb
  have c2 : w2.cell? ⟨g, 1, none⟩ = some v := by rw [Lib.cell_of_heap hb2]; rfl
  have f2 : w2.frozen? ⟨g, 1, none⟩ = false := Lib.frozen_of_heap hb2 1
  have Hat := hid hat
  have Hb2 := hid hb2
  clear hat hb2 hgr hcap
  go_wp2
  go_ret2
  have hne : ∀ k, (Value.slice a' (l ++ s).length cap').ownBlock = some k → k ≠ g := fun k hk => by have := hown'.lt k hk; omega
  refine ⟨rfl, ⟨⟨_, ⟨_, _, ?_, .inr rfl, ownsRow_fr hown' (Fr.setCell _ _ _ _) hne, rfl⟩, ?_⟩, ?_⟩⟩
  · simp [World.setCell, Array.getElem?_modify, Hb2.out]
  · intro k hk
    rcases Hat.out k hk with h | h
    · exact .inl h
    · exact .inr (by rw [hcc.size] at h; omega)
  · have h12 : Fr (fun k => k = g ∨ v.ownBlock = some k) w1 w2 := ⟨hgrow.os, hgrow.tape, hgrow.output, hgrow.size, fun k hk hn => hgrow.block k hk (fun h => hn (.inr h.symm))⟩
    exact ((hcc.fr.mono (fun k _ hk => .inl hk)).trans h12).trans ((Fr.setCell _ _ _ _).mono (fun k _ hk => .inl hk))
set_option maxHeartbeats 2000000 in
set_option maxRecDepth 100000 in
theorem bstring_any (g : Nat) (r : Option Nat) (l : List UInt8) (w : World) (h : Bld g r l w) (h0 : l ≠ []) :
    Calls Tryd.prog 20 #[.pointer (some ⟨g, 0, none⟩)] w fun e w' => e = .returned (sv l) ∧ Fr (fun k => r = some k) w w' := by
  obtain ⟨p, v, hb, hp, hown, hr⟩ := h
  have hl0 : l.length ≠ 0 := by simpa using h0
  have hown0 := hown
  obtain ⟨g', cap, cur, rfl, hbg, hg, hnc, hcm, hcs, htake⟩ : ∃ g' cap cur, v = .slice (some ⟨g', 0, none⟩) l.length cap ∧ g + 1 ≤ g' ∧ w.heap[g']? = some (.cells cur 5 (0, 0)) ∧ l.length ≤ cap ∧ cap ≤ maxLen ∧ cur.size = cap * 1 ∧ cur.toList.take (l.length * 1) = l.map bcell := by
    rcases hown.2 with ⟨_, hz⟩ | ⟨g', cap, cur, hv, r⟩
    · exact absurd hz hl0
    · exact ⟨g', cap, cur, hv, r⟩
  have c1 : w.drew.cell? ⟨g, 1, none⟩ = some (.slice (some ⟨g', 0, none⟩) l.length cap) := by
    have : w.drew.heap[g]? = some (.cells #[p, .slice (some ⟨g', 0, none⟩) l.length cap] 52 (0, 0)) := hb
    rw [Lib.cell_of_heap this]; rfl
  have hSD : (Builtin.unsafeSliceData_ #[50] 76 #[.slice (some ⟨g', 0, none⟩) l.length cap]).run Tryd.prog w.drew = .ok (.pointer (some ⟨g', 0, none⟩)) w.drew :=
    Lib.run_unsafeSliceData_row _ _ _ _ _ _ (by omega)
  have hUS : (Builtin.unsafeString_ #[76, 3] 9 #[.pointer (some ⟨g', 0, none⟩), .int .i64 l.length]).run Tryd.prog w.drew = .ok (.string (mkS l)) (w.drew.freeze ⟨g', 0, none⟩ l.length) := by
    refine Lib.run_unsafeString_row w.drew 76 3 9 5 Tryd.underlying76 Tryd.cellsU8 g' cur.size (by have hg' : w.drew.heap[g']? = some (.cells cur 5 (0, 0)) := hg; simp [World.shape?, hg']) l h0 (by omega) (by unfold maxLen at hcm; omega) ?_
    intro j x hx
    have := hown.cells (g := g') rfl j (.int .u8 x.toNat) (by simp [hx, bcell])
    exact this
  clear htake hcs hcm hg hb hown hown0
  go_enter Tryd.func20, Tryd.ntmps20
  go_wp2
  go_region
  all_goals (go_wp2; go_ret; exact ⟨rfl, by subst hr; exact Fr.freeze (S := fun k => (Value.slice (some (⟨g', 0, none⟩ : Addr)) l.length cap).ownBlock = some k) (Fr.refl _ w).drew (p := ⟨g', 0, none⟩) rfl _⟩)
end Go.Proofs.YtdefipnmjfnpeaaDoor
