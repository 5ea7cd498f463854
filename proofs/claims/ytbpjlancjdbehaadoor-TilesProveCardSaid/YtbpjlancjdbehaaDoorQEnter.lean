/- A call out of a list of operations, by a contract; the same, and a slice of hashes written out, where it must come next in a region that draws its order. -/
import Derived.Test.YtbpjlancjdbehaaDoorQAnyOp
import Derived.Test.YtbpjlancjdbehaaDoorQHashLit

set_option maxRecDepth 100000
namespace Go.Spec
open Go.RowKit
variable {P : Program} {ops : Array Oper} {Q : Exit → Act → World → Prop} {w : World}
theorem wpList_enter {o : Oper} {rest : List Oper} {a : Act} (hw : Region.wanted o (yielded ops a.tmps) = true) (f : Nat) (args : Array Value) (he : (execOp a.eval o).run P w = .ok (.enter f args) w) (v : Value) (R : World → Prop)
    (hc : Calls P f args w fun e w' => e = .returned v ∧ R w') (h : ∀ w', R w' → wpList P ops Q rest (a.put o.dst v) w') : wpList P ops Q (o :: rest) a w :=
  wpList_want hw fun _ hK => by
    unfold Oper.wp
    simp only [he, Oper.upon]
    refine Calls.mono hc fun e w' hx => ?_
    obtain ⟨rfl, hr⟩ := hx
    exact hK _ _ (h w' hr)
theorem wpAnyC_enter {C : World → Prop} {md : Region.Mode} {fuel : Nat} {listed : Array Bool} {a : Act} {i : Nat} {o : Oper} (hr : Region.ready md ops listed = [i]) (ho : ops[i]? = some o) (hC : C w)
    (hw : Region.wanted o (yielded ops a.tmps) = true) (f : Nat) (args : Array Value) (he : (execOp a.eval o).run P w = .ok (.enter f args) w) (v : Value) (R : World → Prop)
    (hc : Calls P f args w fun e w' => e = .returned v ∧ R w') (h : ∀ w', R w' → wpAnyC P md ops C Q fuel (listed.setIfInBounds i true) (a.put o.dst v) w') : wpAnyC P md ops C Q (fuel + 1) listed a w :=
  wpAnyC_forced hr ho hC (wpList_enter hw f args he v R hc fun w' hw' => wpList_nil (h w' hw'))
theorem wpAnyC_enterG {C : World → Prop} {md : Region.Mode} {fuel : Nat} {listed : Array Bool} {a : Act} {i : Nat} {o : Oper} (hr : Region.ready md ops listed = [i]) (ho : ops[i]? = some o) (hC : C w)
    (hw : Region.wanted o (yielded ops a.tmps) = true) (f : Nat) (args : Array Value) (he : (execOp a.eval o).run P w = .ok (.enter f args) w) (v : Value) (R : World → Prop)
    (hc : Calls P f args w fun e w' => e = .returned v ∧ R w') (h : ∀ (w' : World) (g : Nat), w'.heap.size = g → R w' → wpAnyC P md ops C Q fuel (listed.setIfInBounds i true) (a.put o.dst v) w') : wpAnyC P md ops C Q (fuel + 1) listed a w :=
  wpAnyC_enter hr ho hC hw f args he v R hc fun w' hw' => h w' _ rfl hw'
/-- as wpAnyC_take, its destination said -/
theorem wpAnyC_takeD {C : World → Prop} {md : Region.Mode} {i : Nat} {oi : Oper} {v : Value} {fuel : Nat} {listed : Array Bool} {a : Act} (hi : ops[i]? = some oi)
    (hs : Region.noSelect ops = true) (hf : Region.free md ops listed i = true) (hr : (Region.ready md ops listed).contains i = true)
    (hQ : ∀ c a w, Q (.panic c) (a.put oi.dst v) w → Q (.panic c) a w) (hy : YieldsW P ops C oi v a) (d : Option Nat) (hd : oi.dst = d)
    (h : wpAnyC P md ops C Q fuel (listed.setIfInBounds i true) (a.put d v) w) : wpAnyC P md ops C Q (fuel + 1) listed a w := by
  subst hd
  exact wpAnyC_take hi hs hf hr hQ hy h
theorem wpAnyC_buildHs {C : World → Prop} {md : Region.Mode} {fuel : Nat} {listed : Array Bool} {a : Act} {i : Nat} {o : Oper} (hr : Region.ready md ops listed = [i]) (ho : ops[i]? = some o) (hC : C w)
    (hw : Region.wanted o (yielded ops a.tmps) = true) (t elem : TypeId) (n : Nat) (xs : Array (Nat × Operand)) (hop : o.op = .buildSlice t n xs)
    (z : Value) (hs : List (List UInt8)) (hp : (xs.map fun (i, x) => (i, a.eval x)).toList = (hs.zipIdx 0).map fun q => (q.2, hv q.1)) (hn : hs.length = n) (h0 : 0 < n) (h1 : n ≤ 1000) (h32 : ∀ x ∈ hs, x.length = 32)
    (ht : P.underlying t = some (.slice elem)) (hi : (P.info? elem).map (fun i => (i.zero, i.size)) = some (some z, 32)) (g : Nat) (hg : w.heap.size = g)
    (h : ∀ w', Blk w' g (hflat hs).toArray elem → Below w.heap.size w w' → wpAnyC P md ops C Q fuel (listed.setIfInBounds i true) (a.put o.dst (.slice (some ⟨g, 0, none⟩) n n)) w') : wpAnyC P md ops C Q (fuel + 1) listed a w := by
  subst hg
  exact wpAnyC_forced hr ho hC (wpList_buildSlice_hs hw t elem n xs hop z hs hp hn h0 h1 h32 ht hi fun w' h1 h2 => wpList_nil (h w' h1 h2))
end Go.Spec
