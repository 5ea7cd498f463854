/- The reader of messages: a block of two cells that its methods write -/
import Derived.Test.YtjpnlnbpaecciaaQAnyOp
import Derived.Test.YtjpnlnbpaecciaaQCloneH
import Derived.Test.YtjpnlnbpaecciaaQMsgRpLaw
import Derived.Maps.AppendAt
set_option maxRecDepth 100000
namespace Go.Spec
open Go.RowKit
/-- all blocks but g are as they were -/
abbrev But (g : Nat) (w w' : World) : Prop := w.grownBy w' (some g)
theorem But.refl (g : Nat) (w : World) : But g w w := World.grownBy.refl w _
theorem But.of {g : Nat} {w w' : World} (h : Below w.heap.size w w') : But g w w' := ⟨h.os, h.tape, h.output, h.size, fun k hk _ => h.block k hk⟩
theorem But.set {g : Nat} {w w' : World} (h : But g w w') (j : Nat) (v : Value) : But g w (w'.setCell ⟨g, j, none⟩ v) :=
  h.trans ⟨rfl, rfl, rfl, by simp [World.setCell], fun k _ hk => Below.heap_setCell _ _ _ _ (fun e => hk (by rw [e]))⟩
theorem But.below {g B : Nat} {w0 w w' : World} (h0 : Below B w0 w) (h : But g w w') (hB : B ≤ w.heap.size) (hg : B ≤ g) : Below B w0 w' := h0.grown h hB (fun k hk => by injection hk with hk; omega)
theorem But.setRow {g r : Nat} {w w' : World} (h : But g w w') (hr : w.heap.size ≤ r) (cs : Array Value) : But g w (w'.setRow r cs) :=
  ⟨h.os, h.tape, h.output, by rw [setRow_size']; exact h.size, fun k hk hne => (setRow_ne (by omega)).trans (h.block k hk hne)⟩
theorem But.step {g : Nat} {w w1 w2 : World} (h : But g w w1) (h2 : Below w1.heap.size w1 w2) : But g w w2 := h.trans (But.of h2)
theorem But.alloc {g : Nat} {w w1 : World} (h : But g w w1) (o : Obj) : But g w (w1.alloc o) := h.step ((Below.refl _ _).alloc (Nat.le_refl _) o)
theorem But.own (w : World) (g : Nat) (cs : Array Value) : But g w (w.setRow g cs) := ⟨rfl, rfl, rfl, by rw [setRow_size']; exact Nat.le_refl _, fun k _ hne => setRow_ne (fun e => hne (by rw [e]))⟩
theorem But.setCellW (w : World) (g j : Nat) (v : Value) : But g w (w.setCell ⟨g, j, none⟩ v) := (But.refl g w).set j v
theorem setCell_size (w : World) (a : Addr) (v : Value) : (w.setCell a v).heap.size = w.heap.size := by simp [World.setCell]
end Go.Spec
namespace Go.Proofs.Ytjpnlnbpaecciaa
open Go.RowKit Go.Spec
def rdC (x : Rds) : Array Value := #[sv x.1, .bool x.2]
def RdB (w : World) (g : Nat) (x : Rds) : Prop := Blk w g (rdC x) 125
theorem RdB.set {w w1 : World} {g : Nat} {x : Rds} (h : RdB w g x) (hb : Below w.heap.size w w1) (y : Rds) : RdB ((w1.setCell ⟨g, 0, none⟩ (sv y.1)).setCell ⟨g, 1, none⟩ (.bool y.2)) g y := ((Blk.later h hb).setCell 0 (sv y.1)).setCell 1 (.bool y.2)
theorem RdB.set1 {w : World} {g : Nat} {x : Rds} (h : RdB w g x) (y : Bool) : RdB (w.setCell ⟨g, 1, none⟩ (.bool y)) g (x.1, y) := Blk.setCell h 1 (.bool y)
theorem RdB.but {w w' : World} {g g' : Nat} {x : Rds} (h : RdB w g x) (hb : But g' w w') (hne : g ≠ g') : RdB w' g x := (hb.block g (Blk.lt h) (fun e => hne (by injection e))).trans h
/-- what a step of the reader does -/
structure RdA (w w' : World) (g : Nat) (y : Rds) : Prop where
  at_ : RdB w' g y
  but : But g w w'
theorem RdA.of {w w1 : World} {g : Nat} {x : Rds} (h : RdB w g x) (hb : Below w.heap.size w w1) (y : Rds) : RdA w ((w1.setCell ⟨g, 0, none⟩ (sv y.1)).setCell ⟨g, 1, none⟩ (.bool y.2)) g y :=
  ⟨RdB.set h hb y, ((But.of hb).set 0 _).set 1 _⟩
theorem RdB.cells {w : World} {g : Nat} {x : Rds} (h : RdB w g x) : w.cell? ⟨g, 0, none⟩ = some (sv x.1) ∧ w.cell? ⟨g, 1, none⟩ = some (.bool x.2) ∧ w.frozen? ⟨g, 0, none⟩ = false ∧ w.frozen? ⟨g, 1, none⟩ = false := ⟨Blk.cell h 0, Blk.cell h 1, Blk.free h 0, Blk.free h 1⟩
theorem unhashes_row (l : List UInt8) (w : World) (hn : l.length ≤ 9223372036854775807) :
    Calls Try.prog 92 #[sv l] w fun e w' => ∃ v, e = .returned (.tuple #[v, sv (usR l), .bool (usB l)]) ∧ w'.ownsRow w.heap.size 34 32 v (usX l).length (hflat (usX l)) ∧ Below w.heap.size w w' :=
  (unhashes_any l w hn).mono fun _ _ h => by
    obtain ⟨v, hv, hat, hown⟩ := uh_gen h
    exact ⟨v, hv, hown, h.below⟩
set_option maxHeartbeats 2000000 in
theorem number_any (g : Nat) (x : Rds) (most : Nat) (w : World) (h : RdB w g x) (hl : x.1.length ≤ 1000000000) (hm : most ≤ 1073741824) :
    Calls Try.prog 80 #[.pointer (some ⟨g, 0, none⟩), .int .i64 (most : Int)] w fun e w' => e = .returned (.int .i64 (nuN x most : Nat)) ∧ RdA w w' g (nuS x most) := by
  obtain ⟨S, ok⟩ := x
  obtain ⟨c0, c1, f0, f1⟩ := h.cells
  have hlt := Blk.lt h
  have H := hid h; clear h
  have CR := hid (fun w0 => read_gen S w0 (by simp only at hl; omega))
  have HN := hid (show nuN (S, ok) most = if ok && rdB S && decide (rdN S ≤ most) then rdN S else 0 from rfl)
  have HS := hid (show nuS (S, ok) most = (rdR S, ok && rdB S && decide (rdN S ≤ most)) from rfl)
  generalize nuN (S, ok) most = NV at *
  generalize nuS (S, ok) most = SV at *
  generalize rdN S = N at *
  generalize rdR S = R at *
  generalize rdB S = B at *
  clear hl
  cases ok with
  | false =>
    have e1 := HN.out; have e2 := HS.out
    simp only [Bool.false_and, Bool.false_eq_true, if_false] at e1 e2
    subst e1 e2
    clear HN HS
    go_enter Try.func80, Try.ntmps80
    go_wp2_with (go_at_call 76; refine (CR.out _).mono ?_; rintro e w1 ⟨rfl, hb1⟩; have hc0 := (hb1.cell (p := ⟨g, 0, none⟩) hlt).trans c0; have hc1 := (hb1.cell (p := ⟨g, 1, none⟩) hlt).trans c1; have hf0 := (hb1.frozen (p := ⟨g, 0, none⟩) hlt).trans f0; have hf1 := (hb1.frozen (p := ⟨g, 1, none⟩) hlt).trans f1)
    go_ret
    exact ⟨rfl, RdA.of H.out hb1 (R, false)⟩
  | true =>
  cases B with
  | false =>
    have e1 := HN.out; have e2 := HS.out
    simp only [Bool.false_and, Bool.and_false, Bool.false_eq_true, if_false] at e1 e2
    subst e1 e2
    clear HN HS
    go_enter Try.func80, Try.ntmps80
    go_wp2_with (go_at_call 76; refine (CR.out _).mono ?_; rintro e w1 ⟨rfl, hb1⟩; have hc0 := (hb1.cell (p := ⟨g, 0, none⟩) hlt).trans c0; have hc1 := (hb1.cell (p := ⟨g, 1, none⟩) hlt).trans c1; have hf0 := (hb1.frozen (p := ⟨g, 0, none⟩) hlt).trans f0; have hf1 := (hb1.frozen (p := ⟨g, 1, none⟩) hlt).trans f1)
    go_ret
    exact ⟨rfl, RdA.of H.out hb1 (R, false)⟩
  | true =>
  by_cases hN : N ≤ most
  · have e1 := HN.out; have e2 := HS.out
    simp only [hN, Bool.and_self, decide_true, if_true] at e1 e2
    subst e1 e2
    clear HN HS
    have d1 : decide ((NV : Int) ≤ (most : Int)) = true := decide_eq_true (by omega)
    go_enter Try.func80, Try.ntmps80
    go_wp2_with (go_at_call 76; refine (CR.out _).mono ?_; rintro e w1 ⟨rfl, hb1⟩; have hc0 := (hb1.cell (p := ⟨g, 0, none⟩) hlt).trans c0; have hc1 := (hb1.cell (p := ⟨g, 1, none⟩) hlt).trans c1; have hf0 := (hb1.frozen (p := ⟨g, 0, none⟩) hlt).trans f0; have hf1 := (hb1.frozen (p := ⟨g, 1, none⟩) hlt).trans f1)
    go_ret
    exact ⟨rfl, RdA.of H.out hb1 (R, true)⟩
  · have e1 := HN.out; have e2 := HS.out
    simp only [hN, Bool.and_true, Bool.and_false, decide_false, Bool.false_eq_true, if_false] at e1 e2
    subst e1 e2
    clear HN HS
    have d1 : decide (N ≤ most) = false := decide_eq_false hN
    clear hN
    go_enter Try.func80, Try.ntmps80
    go_wp2_with (go_at_call 76; refine (CR.out _).mono ?_; rintro e w1 ⟨rfl, hb1⟩; have hc0 := (hb1.cell (p := ⟨g, 0, none⟩) hlt).trans c0; have hc1 := (hb1.cell (p := ⟨g, 1, none⟩) hlt).trans c1; have hf0 := (hb1.frozen (p := ⟨g, 0, none⟩) hlt).trans f0; have hf1 := (hb1.frozen (p := ⟨g, 1, none⟩) hlt).trans f1)
    go_ret
    exact ⟨rfl, RdA.of H.out hb1 (R, false)⟩
set_option maxHeartbeats 2000000 in
theorem rtext17_any (g : Nat) (x : Rds) (most : Nat) (w : World) (h : RdB w g x) (hl : x.1.length ≤ 1000000000) (hm : most ≤ 1073741824) :
    Calls Try.prog 84 #[.pointer (some ⟨g, 0, none⟩), .int .i64 (most : Int)] w fun e w' => e = .returned (sv (cuT x.1)) ∧ RdA w w' g (txS x most) := by
  obtain ⟨S, ok⟩ := x
  obtain ⟨c0, c1, f0, f1⟩ := h.cells
  have hlt := Blk.lt h
  have H := hid h; clear h
  have hT := cuT_le S
  have CR := hid (fun w0 => cut_gen S w0 (by simp only at hl; omega))
  have HS := hid (show txS (S, ok) most = (cuR S, ok && cuB S && decide ((cuT S).length ≤ most)) from rfl)
  have hTl : (cuT S).length ≤ 1000000000 := by simp only at hl; omega
  generalize txS (S, ok) most = SV at *
  show Calls _ _ _ _ (fun e w' => e = .returned (sv (cuT S)) ∧ _)
  generalize cuT S = T at *
  generalize cuR S = R at *
  generalize cuB S = B at *
  clear hl hT
  cases ok with
  | false =>
    have e2 := HS.out
    simp only [Bool.false_and] at e2
    subst e2
    clear HS
    go_enter Try.func84, Try.ntmps84
    go_wp2_with (go_at_call 71; refine (CR.out _).mono ?_; rintro e w1 ⟨rfl, hb1⟩; have hc0 := (hb1.cell (p := ⟨g, 0, none⟩) hlt).trans c0; have hc1 := (hb1.cell (p := ⟨g, 1, none⟩) hlt).trans c1; have hf0 := (hb1.frozen (p := ⟨g, 0, none⟩) hlt).trans f0; have hf1 := (hb1.frozen (p := ⟨g, 1, none⟩) hlt).trans f1)
    go_ret
    exact ⟨rfl, RdA.of H.out hb1 (R, false)⟩
  | true =>
  cases B with
  | false =>
    have e2 := HS.out
    simp only [Bool.false_and, Bool.and_false] at e2
    subst e2
    clear HS
    go_enter Try.func84, Try.ntmps84
    go_wp2_with (go_at_call 71; refine (CR.out _).mono ?_; rintro e w1 ⟨rfl, hb1⟩; have hc0 := (hb1.cell (p := ⟨g, 0, none⟩) hlt).trans c0; have hc1 := (hb1.cell (p := ⟨g, 1, none⟩) hlt).trans c1; have hf0 := (hb1.frozen (p := ⟨g, 0, none⟩) hlt).trans f0; have hf1 := (hb1.frozen (p := ⟨g, 1, none⟩) hlt).trans f1)
    go_ret
    exact ⟨rfl, RdA.of H.out hb1 (R, false)⟩
  | true =>
  by_cases hN : T.length ≤ most
  · have e2 := HS.out
    simp only [hN, Bool.and_self, decide_true] at e2
    subst e2
    clear HS
    have d1 : decide ((T.length : Int) ≤ (most : Int)) = true := decide_eq_true (by omega)
    go_enter Try.func84, Try.ntmps84
    go_wp2_with (go_at_call 71; refine (CR.out _).mono ?_; rintro e w1 ⟨rfl, hb1⟩; have hc0 := (hb1.cell (p := ⟨g, 0, none⟩) hlt).trans c0; have hc1 := (hb1.cell (p := ⟨g, 1, none⟩) hlt).trans c1; have hf0 := (hb1.frozen (p := ⟨g, 0, none⟩) hlt).trans f0; have hf1 := (hb1.frozen (p := ⟨g, 1, none⟩) hlt).trans f1)
    go_ret
    exact ⟨rfl, RdA.of H.out hb1 (R, true)⟩
  · have e2 := HS.out
    simp only [hN, Bool.and_true, Bool.and_false, decide_false] at e2
    subst e2
    clear HS
    have d1 : decide (T.length ≤ most) = false := decide_eq_false hN
    clear hN
    go_enter Try.func84, Try.ntmps84
    go_wp2_with (go_at_call 71; refine (CR.out _).mono ?_; rintro e w1 ⟨rfl, hb1⟩; have hc0 := (hb1.cell (p := ⟨g, 0, none⟩) hlt).trans c0; have hc1 := (hb1.cell (p := ⟨g, 1, none⟩) hlt).trans c1; have hf0 := (hb1.frozen (p := ⟨g, 0, none⟩) hlt).trans f0; have hf1 := (hb1.frozen (p := ⟨g, 1, none⟩) hlt).trans f1)
    go_ret
    exact ⟨rfl, RdA.of H.out hb1 (R, false)⟩
set_option maxHeartbeats 2000000 in
theorem rhashes17_any (g : Nat) (x : Rds) (w : World) (h : RdB w g x) (hl : x.1.length ≤ 1000000000) :
    Calls Try.prog 85 #[.pointer (some ⟨g, 0, none⟩)] w fun e w' => ∃ v, e = .returned v ∧ w'.ownsRow w.heap.size 34 32 v (usX x.1).length (hflat (usX x.1)) ∧ RdA w w' g (hsS x) := by
  obtain ⟨S, ok⟩ := x
  obtain ⟨c0, c1, f0, f1⟩ := h.cells
  have hlt := Blk.lt h
  have H := hid h; clear h
  have CR := hid (fun w0 => unhashes_row S w0 (by simp only at hl; omega))
  have HS := hid (show hsS (S, ok) = (usR S, ok && usB S) from rfl)
  generalize hsS (S, ok) = SV at *
  show Calls _ _ _ _ (fun e w' => ∃ v, e = .returned v ∧ w'.ownsRow w.heap.size 34 32 v (usX S).length (hflat (usX S)) ∧ _)
  generalize usX S = T at *
  generalize usR S = R at *
  generalize usB S = B at *
  clear hl
  have Hne := hid (show ∀ v (w1 : World), w1.ownsRow w.heap.size 34 32 v T.length (hflat T) → ∀ y : Rds, ((w1.setCell ⟨g, 0, none⟩ (sv y.1)).setCell ⟨g, 1, none⟩ (.bool y.2)).ownsRow w.heap.size 34 32 v T.length (hflat T) by
    intro v w1 ho y
    refine World.ownsRow.kept ho (((But.refl g w1).set 0 _).set 1 _) ?_
    cases hv : v.ownBlock with
    | none => exact .inl rfl
    | some k => have := (ho.lt k hv).1; exact .inr (fun e => by injection e with e; omega))
  cases ok with
  | false =>
    have e2 := HS.out
    simp only [Bool.false_and] at e2
    subst e2
    clear HS
    go_enter Try.func85, Try.ntmps85
    go_wp2_with (go_at_call 92; refine (CR.out _).mono ?_; rintro e w1 ⟨v1, rfl, hown1, hb1⟩; have Hown1 := hid hown1; clear hown1; have hc0 := (hb1.cell (p := ⟨g, 0, none⟩) hlt).trans c0; have hc1 := (hb1.cell (p := ⟨g, 1, none⟩) hlt).trans c1; have hf0 := (hb1.frozen (p := ⟨g, 0, none⟩) hlt).trans f0; have hf1 := (hb1.frozen (p := ⟨g, 1, none⟩) hlt).trans f1)
    go_ret
    exact ⟨_, rfl, Hne.out _ _ Hown1.out (R, false), RdA.of H.out hb1 (R, false)⟩
  | true =>
    have e2 := HS.out
    simp only [Bool.true_and] at e2
    subst e2
    clear HS
    go_enter Try.func85, Try.ntmps85
    go_wp2_with (go_at_call 92; refine (CR.out _).mono ?_; rintro e w1 ⟨v1, rfl, hown1, hb1⟩; have Hown1 := hid hown1; clear hown1; have hc0 := (hb1.cell (p := ⟨g, 0, none⟩) hlt).trans c0; have hc1 := (hb1.cell (p := ⟨g, 1, none⟩) hlt).trans c1; have hf0 := (hb1.frozen (p := ⟨g, 0, none⟩) hlt).trans f0; have hf1 := (hb1.frozen (p := ⟨g, 1, none⟩) hlt).trans f1)
    go_ret
    exact ⟨_, rfl, Hne.out _ _ Hown1.out (R, B), RdA.of H.out hb1 (R, B)⟩
theorem rend_any (g : Nat) (x : Rds) (w : World) (h : RdB w g x) :
    Calls Try.prog 81 #[.pointer (some ⟨g, 0, none⟩)] w fun e w' => e = .returned (.bool (x.2 && x.1 == [])) ∧ Below w.heap.size w w' := by
  obtain ⟨S, ok⟩ := x
  obtain ⟨c0, c1, f0, f1⟩ := h.cells
  have hlt := Blk.lt h
  clear h
  cases ok with
  | false =>
    go_enter Try.func81, Try.ntmps81
    go_wp2
    go_ret
    exact ⟨rfl, Below.refl _ _⟩
  | true =>
    cases S with
    | nil =>
      go_enter Try.func81, Try.ntmps81
      go_wp2
      go_ret
      exact ⟨rfl, Below.refl _ _⟩
    | cons a S =>
      go_enter Try.func81, Try.ntmps81
      go_wp2
      go_ret
      exact ⟨rfl, Below.refl _ _⟩
end Go.Proofs.Ytjpnlnbpaecciaa
/- The reader of messages: a signed head; where it begins -/
namespace Go.Spec
open Go.RowKit
theorem Blk.but {w w' : World} {g g' : Nat} {cs : Array Value} {t : TypeId} (h : Blk w g cs t) (hb : But g' w w') (hne : g ≠ g') : Blk w' g cs t := (hb.block g (Blk.lt h) (fun e => hne (by injection e))).trans h
end Go.Spec
namespace Go.Proofs.Ytjpnlnbpaecciaa
open Go.RowKit Go.Spec
/-- heads.Get, in one word -/
theorem sgetU_any (l : List UInt8) (w : World) (hl : l.length ≤ 1000000000) :
    Calls Try.prog 72 #[sv l] w fun e w' => (∃ (d : Sg) (E : Int), d.k = (getS l).getD zeroK ∧ e = .returned (.tuple #[.agg (sgA d.z d.root d.i d.sig d.p), .int .i64 E]) ∧ d.In w' ∧ Fresh w d ∧ Hid (E = if (getS l).isSome then 0 else 10)) ∧ Below w.heap.size w w' :=
  (sget_any l w hl).mono fun e w' h => by
    refine ⟨?_, h.below⟩
    cases hs : getS l with
    | none => exact ⟨⟨0, zero32, 0, [], [], none, 0⟩, 10, rfl, h.no hs, ⟨rfl, SlAt.nil _, by simp, by simp⟩, fun ad h => (by cases h), rfl⟩
    | some k =>
      obtain ⟨d, h1, h2, h3, h4⟩ := h.yes k hs
      exact ⟨d, 0, h1, h2, h3, h4, rfl⟩
theorem sgIn_but {w w' : World} {d : Sg} {g : Nat} (h : d.In w) (hb : But g w w') (hf : ∀ ad, d.a = some ad → g < ad.block) : d.In w' :=
  h.grown hb fun ad had _ e => by injection e with e; have := hf ad had; omega
set_option maxHeartbeats 4000000 in
theorem rhead17_any (g : Nat) (x : Rds) (w : World) (h : RdB w g x) (hl : x.1.length ≤ 1000000000) :
    Calls Try.prog 83 #[.pointer (some ⟨g, 0, none⟩)] w fun e w' => (∃ d : Sg, d.k = sgK1 x ∧ e = .returned (.agg (sgA d.z d.root d.i d.sig d.p)) ∧ d.In w' ∧ Fresh w d) ∧ RdA w w' g (sgS x) := by
  have hlt := Blk.lt h
  have hTl := cuT_le x.1
  have C1 := hid (fun w0 (h0 : RdB w0 g x) => rtext17_any g x 65536 w0 h0 hl (by decide))
  have C2 := hid (fun w0 => sgetU_any (cuT x.1) w0 (by omega))
  have HS := hid (show sgS x = ((txS x 65536).1, (txS x 65536).2 && (getS (cuT x.1)).isSome) from rfl)
  have HK := hid (show sgK1 x = (getS (cuT x.1)).getD zeroK from rfl)
  generalize sgS x = SV at *
  generalize sgK1 x = KV at *
  generalize cuT x.1 = T at *
  rcases hy : txS x 65536 with ⟨S1, ok1⟩
  rw [hy] at HS C1
  clear hy
  have HH := hid (h.alloc (.cells (sgA 0 zero32 0 [] (.slice none 0 0)) 41))
  have HZ := hid (Blk.new w (sgA 0 zero32 0 [] (.slice none 0 0)) 41)
  clear h hl hTl
  go_enter Try.func83, Try.ntmps83
  go_upto_region 2 with (first
    | (go_at_call 84; refine (C1.out _ HH.out).mono ?_; rintro e w1 ⟨rfl, hA⟩; have HA := hid hA; clear hA)
    | (go_at_call 72; refine (C2.out _).mono ?_; rintro e w2 ⟨⟨d, E, hdk, rfl, hdin, hfr, HE⟩, hb2⟩; have Hdk := hid hdk; have Hin := hid hdin; have Hfr := hid hfr; have Hb2 := hid hb2; have hr := hdin.r32; have HszS := hid (show (Try.prog.info? 41).map (·.size) = some (sgA d.z d.root d.i d.sig d.p).size by rw [sgA_size hr]; exact Try.sizeSigned); have Hs36 := hid (sgA_size (z := d.z) (i := d.i) (sig := d.sig) (p := d.p) hr); clear hdk hdin hfr hb2)
    | ((with_reducible show wpList _ _ _ ({ dst := _, op := Op.store _ _ _, type := _, pos := _, after := _, guard := _ } :: _) _ _); refine wpList_store_newA rfl 41 _ _ rfl rfl (sgA d.z d.root d.i d.sig d.p) rfl _ 41 (by rw [Hs36.out]; rfl) HszS.out (sgA_one rfl) ?_))
  have hwl : w.heap.size < w1.heap.size := by have := HA.out.but.size; simp at this; omega
  have hw2 : w1.heap.size ≤ w2.heap.size := Hb2.out.size
  have hIn3 := Hin.out.below ((Below.refl _ _).alloc (Nat.le_refl _) (.cells (sgA d.z d.root d.i d.sig d.p) 41))
  have hG3 := (Blk.later HA.out.at_ Hb2.out).alloc (.cells (sgA d.z d.root d.i d.sig d.p) 41)
  have hZ3 := (Blk.later (Blk.but HZ.out HA.out.but (by omega)) Hb2.out).alloc (.cells (sgA d.z d.root d.i d.sig d.p) 41)
  have hB3 : But g w (w2.alloc (.cells (sgA d.z d.root d.i d.sig d.p) 41)) := But.alloc (But.step (World.grownBy.trans (But.of ((Below.refl _ w).alloc (Nat.le_refl _) (.cells (sgA 0 zero32 0 [] (.slice none 0 0)) 41))) HA.out.but) Hb2.out) _
  have hL3 := Blk.new w2 (sgA d.z d.root d.i d.sig d.p) 41
  refine wp_world (fun W => d.In W ∧ RdB W g (S1, ok1) ∧ Blk W w.heap.size (sgA 0 zero32 0 [] (.slice none 0 0)) 41 ∧ But g w W ∧ Blk W w2.heap.size (sgA d.z d.root d.i d.sig d.p) 41) ⟨hIn3, hG3, hZ3, hB3, hL3⟩ ?_
  rintro w3 ⟨hIn3, hG3, hZ3, hB3, hL3⟩
  obtain ⟨c0, c1, f0, f1⟩ := RdB.cells hG3
  have Hne1 := hid (show g ≠ w.heap.size by omega)
  have Hne2 := hid (show g ≠ w2.heap.size by omega)
  have Hne3 := hid (show w.heap.size ≠ w2.heap.size by omega)
  have Hwl := hid hwl
  have HL := hid (fun b : Bool => Blk.setCell_ne hL3 (a := ⟨g, 1, none⟩) Hne2.out (.bool b))
  have HZ2 := hid (fun b : Bool => Blk.setCell_ne hZ3 (a := ⟨g, 1, none⟩) Hne1.out (.bool b))
  have Hfr1 := hid (show ∀ ad, d.a = some ad → w.heap.size < ad.block from fun ad had => by have := Hfr.out ad had; omega)
  have Hfin := hid (show ∀ b : Bool, SV = (S1, b) → ((∃ d' : Sg, d'.k = KV ∧ Ending.returned (.agg (sgA d.z d.root d.i d.sig d.p)) = Ending.returned (.agg (sgA d'.z d'.root d'.i d'.sig d'.p)) ∧ d'.In ((w3.setCell ⟨g, 1, none⟩ (.bool b)).setRow w.heap.size (sgA d.z d.root d.i d.sig d.p)) ∧ Fresh w d') ∧ RdA w ((w3.setCell ⟨g, 1, none⟩ (.bool b)).setRow w.heap.size (sgA d.z d.root d.i d.sig d.p)) g SV) from fun b hb => by
    refine ⟨⟨d, by rw [HK.out]; exact Hdk.out, rfl, ?_, fun ad had => Nat.le_of_lt (Hfr1.out ad had)⟩, ?_⟩
    · exact sgIn_but (sgIn_but hIn3 (But.setCellW w3 g 1 (.bool b)) (fun ad had => by have := Hfr1.out ad had; omega)) (But.own _ w.heap.size _) (fun ad had => Hfr1.out ad had)
    · subst hb
      exact ⟨Blk.setRow_ne (RdB.set1 hG3 b) Hne1.out, But.setRow (But.set hB3 1 (.bool b)) (Nat.le_refl _) _⟩)
  clear hIn3 hG3 hZ3 hB3 hL3 hwl hw2
  cases ok1 with
  | false =>
    have e2 := HS.out
    simp only [Bool.false_and] at e2
    have E2 := hid e2; clear e2
    go_wp2_with (first
      | ((with_reducible show wpList _ _ _ ({ dst := _, op := Op.load 41 _, type := _, pos := _, after := _, guard := _ } :: _) _ _); refine wpList_load_blk rfl 41 _ rfl w2.heap.size rfl 41 (sgA d.z d.root d.i d.sig d.p) _ (HL.out false) Try.underlying41 rfl HszS.out ?_)
      | ((with_reducible show wpList _ _ _ ({ dst := _, op := Op.store 41 _ _, type := _, pos := _, after := _, guard := _ } :: _) _ _); refine wpList_store_blk rfl 41 _ _ rfl w.heap.size rfl (sgA d.z d.root d.i d.sig d.p) rfl (sgA 0 zero32 0 [] (.slice none 0 0)) 41 (HZ2.out false) (by rw [Hs36.out]; rfl) HszS.out (sgA_one rfl) ?_))
    exact bodyPost_ret (results_cell1 rfl _ w.heap.size 41 (sgA d.z d.root d.i d.sig d.p) (0, 0) _ rfl (setRow_get (cs := sgA d.z d.root d.i d.sig d.p) (HZ2.out false)) Try.underlying41 rfl HszS.out) rfl (Hfin.out false E2.out)
  | true =>
    cases hs : (getS T).isSome with
    | false =>
      have e2 := HS.out
      rw [hs] at e2
      simp only [Bool.and_false] at e2
      have E2 := hid e2; clear e2
      have hE := HE.out
      rw [hs] at hE
      simp only [Bool.false_eq_true, if_false] at hE
      subst hE
      go_wp2_with (first
        | ((with_reducible show wpList _ _ _ ({ dst := _, op := Op.load 41 _, type := _, pos := _, after := _, guard := _ } :: _) _ _); refine wpList_load_blk rfl 41 _ rfl w2.heap.size rfl 41 (sgA d.z d.root d.i d.sig d.p) _ (HL.out false) Try.underlying41 rfl HszS.out ?_)
        | ((with_reducible show wpList _ _ _ ({ dst := _, op := Op.store 41 _ _, type := _, pos := _, after := _, guard := _ } :: _) _ _); refine wpList_store_blk rfl 41 _ _ rfl w.heap.size rfl (sgA d.z d.root d.i d.sig d.p) rfl (sgA 0 zero32 0 [] (.slice none 0 0)) 41 (HZ2.out false) (by rw [Hs36.out]; rfl) HszS.out (sgA_one rfl) ?_))
      exact bodyPost_ret (results_cell1 rfl _ w.heap.size 41 (sgA d.z d.root d.i d.sig d.p) (0, 0) _ rfl (setRow_get (cs := sgA d.z d.root d.i d.sig d.p) (HZ2.out false)) Try.underlying41 rfl HszS.out) rfl (Hfin.out false E2.out)
    | true =>
      have e2 := HS.out
      rw [hs] at e2
      simp only [Bool.and_true] at e2
      have E2 := hid e2; clear e2
      have hE := HE.out
      rw [hs] at hE
      simp only [if_true] at hE
      subst hE
      go_wp2_with (first
        | ((with_reducible show wpList _ _ _ ({ dst := _, op := Op.load 41 _, type := _, pos := _, after := _, guard := _ } :: _) _ _); refine wpList_load_blk rfl 41 _ rfl w2.heap.size rfl 41 (sgA d.z d.root d.i d.sig d.p) _ (HL.out true) Try.underlying41 rfl HszS.out ?_)
        | ((with_reducible show wpList _ _ _ ({ dst := _, op := Op.store 41 _ _, type := _, pos := _, after := _, guard := _ } :: _) _ _); refine wpList_store_blk rfl 41 _ _ rfl w.heap.size rfl (sgA d.z d.root d.i d.sig d.p) rfl (sgA 0 zero32 0 [] (.slice none 0 0)) 41 (HZ2.out true) (by rw [Hs36.out]; rfl) HszS.out (sgA_one rfl) ?_))
      exact bodyPost_ret (results_cell1 rfl _ w.heap.size 41 (sgA d.z d.root d.i d.sig d.p) (0, 0) _ rfl (setRow_get (cs := sgA d.z d.root d.i d.sig d.p) (HZ2.out true)) Try.underlying41 rfl HszS.out) rfl (Hfin.out true E2.out)
set_option maxHeartbeats 1000000 in
theorem begin_any (l : List UInt8) (c : UInt8) (w : World) (hl : l.length ≤ 1000000000) :
    Calls Try.prog 79 #[sv l, sv [c]] w fun e w' => e = .returned (.pointer (some ⟨w.heap.size, 0, none⟩)) ∧ RdB w' w.heap.size (beS l c) ∧ Below w.heap.size w w' := by
  cases l with
  | nil =>
    have hb := hid (show beS [] c = ([], false) from rfl)
    rw [hb.out]
    go_enter Try.func79, Try.ntmps79
    go_wp2
    go_ret
    exact ⟨rfl, Blk.new _ _ _, (Below.refl _ w).alloc (Nat.le_refl _) _⟩
  | cons a r =>
    have h1 : ((a :: r).take 1) = [a] := rfl
    have Hd := hid (show (a :: r).tail = r from rfl)
    have h0 : (((a :: r).length : Int) == 0) = false := by simp; omega
    have h0' : 0 < (a :: r).length := by simp
    have Hbe := hid (show beS (a :: r) c = if (a :: r).length ≤ 65536 then (if a = c then (r, true) else ([], false)) else ([], false) by
      unfold beS behind
      by_cases h : a = c <;> simp [h])
    generalize beS (a :: r) c = X at *
    generalize a :: r = L at *
    by_cases h : L.length ≤ 65536
    · have d1 : decide ((65536 : Int) < (L.length : Int)) = false := decide_eq_false (by omega)
      by_cases hc : a = c
      · have Hx := hid (show X = (L.tail, true) by rw [Hbe.out, if_pos h, if_pos hc, Hd.out])
        have q : (a == c) = true := by simpa using hc
        clear hc Hbe
        go_enter Try.func79, Try.ntmps79
        go_wp2
        go_ret
        exact ⟨rfl, by rw [Hx.out]; exact Blk.new _ _ _, (Below.refl _ w).alloc (Nat.le_refl _) _⟩
      · have Hx := hid (show X = ([], false) by rw [Hbe.out, if_pos h, if_neg hc])
        have q : (a == c) = false := by simpa using hc
        clear hc Hbe
        go_enter Try.func79, Try.ntmps79
        go_wp2
        go_ret
        exact ⟨rfl, by rw [Hx.out]; exact Blk.new _ _ _, (Below.refl _ w).alloc (Nat.le_refl _) _⟩
    · have d1 : decide ((65536 : Int) < (L.length : Int)) = true := decide_eq_true (by omega)
      have Hx := hid (show X = ([], false) by rw [Hbe.out, if_neg h])
      clear Hbe h
      go_enter Try.func79, Try.ntmps79
      go_wp2
      go_ret
      exact ⟨rfl, by rw [Hx.out]; exact Blk.new _ _ _, (Below.refl _ w).alloc (Nat.le_refl _) _⟩
end Go.Proofs.Ytjpnlnbpaecciaa
