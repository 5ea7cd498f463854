/- The reader of messages: a block of two cells that its methods write -/
import Derived.Test.YtbpjlancjdbehaaDoorQAnyOp
import Derived.Test.YtbpjlancjdbehaaDoorQSg
import Derived.Maps.AppendAt
set_option maxRecDepth 100000
namespace Go.Spec
open Go.RowKit
/-- all blocks but g are as they were -/
abbrev But (g : Nat) (w w' : World) : Prop := w.grownBy w' (some g)
theorem But.refl (g : Nat) (w : World) : But g w w := World.grownBy.refl w _
theorem But.of {g : Nat} {w w' : World} (h : Below w.heap.size w w') : But g w w' := ⟨h.os, h.tape, h.output, h.size, fun k hk _ => h.block k hk⟩
theorem But.set {g : Nat} {w w' : World} (h : But g w w') (j : Nat) (v : Value) : But g w (w'.setCell ⟨g, j, none⟩ v) :=
  h.trans ⟨rfl, rfl, rfl, by simp [World.setCell], fun k _ hk => Below.heap_setCell _ _ _ _ (fun e => hk (by rw [e]))⟩
theorem But.below {g B : Nat} {w0 w w' : World} (h0 : Below B w0 w) (h : But g w w') (hB : B ≤ w.heap.size) (hg : B ≤ g) : Below B w0 w' := h0.grown h hB (fun k hk => by injection hk with hk; omega)
theorem But.setRow {g r : Nat} {w w' : World} (h : But g w w') (hr : w.heap.size ≤ r) (cs : Array Value) : But g w (w'.setRow r cs) :=
  ⟨h.os, h.tape, h.output, by rw [setRow_size']; exact h.size, fun k hk hne => (setRow_ne (by omega)).trans (h.block k hk hne)⟩
theorem But.step {g : Nat} {w w1 w2 : World} (h : But g w w1) (h2 : Below w1.heap.size w1 w2) : But g w w2 := h.trans (But.of h2)
theorem But.alloc {g : Nat} {w w1 : World} (h : But g w w1) (o : Obj) : But g w (w1.alloc o) := h.step ((Below.refl _ _).alloc (Nat.le_refl _) o)
theorem setCell_size (w : World) (a : Addr) (v : Value) : (w.setCell a v).heap.size = w.heap.size := by simp [World.setCell]
end Go.Spec
namespace Go.Proofs.YtbpjlancjdbehaaDoor
open Go.RowKit Go.Spec
def rdC (x : Rds) : Array Value := #[sv x.1, .bool x.2]
def RdB (w : World) (g : Nat) (x : Rds) : Prop := Blk w g (rdC x) 138
theorem RdB.set {w w1 : World} {g : Nat} {x : Rds} (h : RdB w g x) (hb : Below w.heap.size w w1) (y : Rds) : RdB ((w1.setCell ⟨g, 0, none⟩ (sv y.1)).setCell ⟨g, 1, none⟩ (.bool y.2)) g y := ((Blk.later h hb).setCell 0 (sv y.1)).setCell 1 (.bool y.2)
theorem RdB.but {w w' : World} {g g' : Nat} {x : Rds} (h : RdB w g x) (hb : But g' w w') (hne : g ≠ g') : RdB w' g x := (hb.block g (Blk.lt h) (fun e => hne (by injection e))).trans h
/-- what a step of the reader does -/
structure RdA (w w' : World) (g : Nat) (y : Rds) : Prop where
  at_ : RdB w' g y
  but : But g w w'
theorem RdA.of {w w1 : World} {g : Nat} {x : Rds} (h : RdB w g x) (hb : Below w.heap.size w w1) (y : Rds) : RdA w ((w1.setCell ⟨g, 0, none⟩ (sv y.1)).setCell ⟨g, 1, none⟩ (.bool y.2)) g y :=
  ⟨RdB.set h hb y, ((But.of hb).set 0 _).set 1 _⟩
theorem RdB.cells {w : World} {g : Nat} {x : Rds} (h : RdB w g x) : w.cell? ⟨g, 0, none⟩ = some (sv x.1) ∧ w.cell? ⟨g, 1, none⟩ = some (.bool x.2) ∧ w.frozen? ⟨g, 0, none⟩ = false ∧ w.frozen? ⟨g, 1, none⟩ = false := ⟨Blk.cell h 0, Blk.cell h 1, Blk.free h 0, Blk.free h 1⟩
set_option maxHeartbeats 2000000 in
theorem number_any (g : Nat) (x : Rds) (most : Nat) (w : World) (h : RdB w g x) (hl : x.1.length ≤ 1000000000) (hm : most ≤ 1073741824) :
    Calls Tryd.prog 77 #[.pointer (some ⟨g, 0, none⟩), .int .i64 (most : Int)] w fun e w' => e = .returned (.int .i64 (nuN x most : Nat)) ∧ RdA w w' g (nuS x most) := by
  obtain ⟨S, ok⟩ := x
  obtain ⟨c0, c1, f0, f1⟩ := h.cells
  have hlt := Blk.lt h
  have H := hid h; clear h
  have CR := hid (fun w0 => read_gen S w0 (by simp only at hl; omega))
  have HN := hid (show nuN (S, ok) most = if ok && rdB S && decide (rdN S ≤ most) then rdN S else 0 from rfl)
  have HS := hid (show nuS (S, ok) most = (rdR S, ok && rdB S && decide (rdN S ≤ most)) from rfl)
  generalize nuN (S, ok) most = NV at *
  generalize nuS (S, ok) most = SV at *
  generalize rdN S = N at *
  generalize rdR S = R at *
  generalize rdB S = B at *
  clear hl
  cases ok with
  | false =>
    have e1 := HN.out; have e2 := HS.out
    simp only [Bool.false_and, Bool.false_eq_true, if_false] at e1 e2
    subst e1 e2
    clear HN HS
    go_enter Tryd.func77, Tryd.ntmps77
    go_wp2_with (go_at_call 97; refine (CR.out _).mono ?_; rintro e w1 ⟨rfl, hb1⟩; have hc0 := (hb1.cell (p := ⟨g, 0, none⟩) hlt).trans c0; have hc1 := (hb1.cell (p := ⟨g, 1, none⟩) hlt).trans c1; have hf0 := (hb1.frozen (p := ⟨g, 0, none⟩) hlt).trans f0; have hf1 := (hb1.frozen (p := ⟨g, 1, none⟩) hlt).trans f1)
    go_ret
    exact ⟨rfl, RdA.of H.out hb1 (R, false)⟩
  | true =>
  cases B with
  | false =>
    have e1 := HN.out; have e2 := HS.out
    simp only [Bool.false_and, Bool.and_false, Bool.false_eq_true, if_false] at e1 e2
    subst e1 e2
    clear HN HS
    go_enter Tryd.func77, Tryd.ntmps77
    go_wp2_with (go_at_call 97; refine (CR.out _).mono ?_; rintro e w1 ⟨rfl, hb1⟩; have hc0 := (hb1.cell (p := ⟨g, 0, none⟩) hlt).trans c0; have hc1 := (hb1.cell (p := ⟨g, 1, none⟩) hlt).trans c1; have hf0 := (hb1.frozen (p := ⟨g, 0, none⟩) hlt).trans f0; have hf1 := (hb1.frozen (p := ⟨g, 1, none⟩) hlt).trans f1)
    go_ret
    exact ⟨rfl, RdA.of H.out hb1 (R, false)⟩
  | true =>
  by_cases hN : N ≤ most
  · have e1 := HN.out; have e2 := HS.out
    simp only [hN, Bool.and_self, decide_true, if_true] at e1 e2
    subst e1 e2
    clear HN HS
    have d1 : decide ((NV : Int) ≤ (most : Int)) = true := decide_eq_true (by omega)
    go_enter Tryd.func77, Tryd.ntmps77
    go_wp2_with (go_at_call 97; refine (CR.out _).mono ?_; rintro e w1 ⟨rfl, hb1⟩; have hc0 := (hb1.cell (p := ⟨g, 0, none⟩) hlt).trans c0; have hc1 := (hb1.cell (p := ⟨g, 1, none⟩) hlt).trans c1; have hf0 := (hb1.frozen (p := ⟨g, 0, none⟩) hlt).trans f0; have hf1 := (hb1.frozen (p := ⟨g, 1, none⟩) hlt).trans f1)
    go_ret
    exact ⟨rfl, RdA.of H.out hb1 (R, true)⟩
  · have e1 := HN.out; have e2 := HS.out
    simp only [hN, Bool.and_true, Bool.and_false, decide_false, Bool.false_eq_true, if_false] at e1 e2
    subst e1 e2
    clear HN HS
    have d1 : decide (N ≤ most) = false := decide_eq_false hN
    clear hN
    go_enter Tryd.func77, Tryd.ntmps77
    go_wp2_with (go_at_call 97; refine (CR.out _).mono ?_; rintro e w1 ⟨rfl, hb1⟩; have hc0 := (hb1.cell (p := ⟨g, 0, none⟩) hlt).trans c0; have hc1 := (hb1.cell (p := ⟨g, 1, none⟩) hlt).trans c1; have hf0 := (hb1.frozen (p := ⟨g, 0, none⟩) hlt).trans f0; have hf1 := (hb1.frozen (p := ⟨g, 1, none⟩) hlt).trans f1)
    go_ret
    exact ⟨rfl, RdA.of H.out hb1 (R, false)⟩
theorem rend_any (g : Nat) (x : Rds) (w : World) (h : RdB w g x) :
    Calls Tryd.prog 79 #[.pointer (some ⟨g, 0, none⟩)] w fun e w' => e = .returned (.bool (x.2 && x.1 == [])) ∧ Below w.heap.size w w' := by
  obtain ⟨S, ok⟩ := x
  obtain ⟨c0, c1, f0, f1⟩ := h.cells
  have hlt := Blk.lt h
  clear h
  cases ok with
  | false =>
    go_enter Tryd.func79, Tryd.ntmps79
    go_wp2
    go_ret
    exact ⟨rfl, Below.refl _ _⟩
  | true =>
    cases S with
    | nil =>
      go_enter Tryd.func79, Tryd.ntmps79
      go_wp2
      go_ret
      exact ⟨rfl, Below.refl _ _⟩
    | cons a S =>
      go_enter Tryd.func79, Tryd.ntmps79
      go_wp2
      go_ret
      exact ⟨rfl, Below.refl _ _⟩
end Go.Proofs.YtbpjlancjdbehaaDoor
/- The reader of messages: a signed head; where it begins -/
namespace Go.Spec
open Go.RowKit
theorem Blk.but {w w' : World} {g g' : Nat} {cs : Array Value} {t : TypeId} (h : Blk w g cs t) (hb : But g' w w') (hne : g ≠ g') : Blk w' g cs t := (hb.block g (Blk.lt h) (fun e => hne (by injection e))).trans h
end Go.Spec
namespace Go.Proofs.YtbpjlancjdbehaaDoor
open Go.RowKit Go.Spec
set_option maxHeartbeats 1000000 in
theorem begin_any (l : List UInt8) (c : UInt8) (w : World) (hl : l.length ≤ 1000000000) :
    Calls Tryd.prog 76 #[sv l, sv [c]] w fun e w' => e = .returned (.pointer (some ⟨w.heap.size, 0, none⟩)) ∧ RdB w' w.heap.size (beS l c) ∧ Below w.heap.size w w' := by
  cases l with
  | nil =>
    have hb := hid (show beS [] c = ([], false) from rfl)
    rw [hb.out]
    go_enter Tryd.func76, Tryd.ntmps76
    go_wp2
    go_ret
    exact ⟨rfl, Blk.new _ _ _, (Below.refl _ w).alloc (Nat.le_refl _) _⟩
  | cons a r =>
    have h1 : ((a :: r).take 1) = [a] := rfl
    have Hd := hid (show (a :: r).tail = r from rfl)
    have h0 : (((a :: r).length : Int) == 0) = false := by simp; omega
    have h0' : 0 < (a :: r).length := by simp
    have Hbe := hid (show beS (a :: r) c = if (a :: r).length ≤ 65536 then (if a = c then (r, true) else ([], false)) else ([], false) by
      unfold beS behind
      by_cases h : a = c <;> simp [h])
    generalize beS (a :: r) c = X at *
    generalize a :: r = L at *
    by_cases h : L.length ≤ 65536
    · have d1 : decide ((65536 : Int) < (L.length : Int)) = false := decide_eq_false (by omega)
      by_cases hc : a = c
      · have Hx := hid (show X = (L.tail, true) by rw [Hbe.out, if_pos h, if_pos hc, Hd.out])
        have q : (a == c) = true := by simpa using hc
        clear hc Hbe
        go_enter Tryd.func76, Tryd.ntmps76
        go_wp2
        go_ret
        exact ⟨rfl, by rw [Hx.out]; exact Blk.new _ _ _, (Below.refl _ w).alloc (Nat.le_refl _) _⟩
      · have Hx := hid (show X = ([], false) by rw [Hbe.out, if_pos h, if_neg hc])
        have q : (a == c) = false := by simpa using hc
        clear hc Hbe
        go_enter Tryd.func76, Tryd.ntmps76
        go_wp2
        go_ret
        exact ⟨rfl, by rw [Hx.out]; exact Blk.new _ _ _, (Below.refl _ w).alloc (Nat.le_refl _) _⟩
    · have d1 : decide ((65536 : Int) < (L.length : Int)) = true := decide_eq_true (by omega)
      have Hx := hid (show X = ([], false) by rw [Hbe.out, if_neg h])
      clear Hbe h
      go_enter Tryd.func76, Tryd.ntmps76
      go_wp2
      go_ret
      exact ⟨rfl, by rw [Hx.out]; exact Blk.new _ _ _, (Below.refl _ w).alloc (Nat.le_refl _) _⟩
end Go.Proofs.YtbpjlancjdbehaaDoor
