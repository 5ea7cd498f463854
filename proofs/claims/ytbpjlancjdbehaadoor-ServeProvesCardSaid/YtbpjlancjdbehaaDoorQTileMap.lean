/- the map of the tiles: keyed by a level and an index, of hashes -/
import Derived.Test.YtbpjlancjdbehaaDoorQAnyOp
import Derived.Test.YtbpjlancjdbehaaDoorQBase
import Derived.Test.YtbpjlancjdbehaaDoorQSlices
import Derived.Test.YtbpjlancjdbehaaDoorQTreeSplit
import Derived.Maps.OwnSet
import Derived.DeepKeys5
import Derived.Shelf.SlMaps.Clone
import Derived.Maps.RangeWalk
set_option maxRecDepth 100000
namespace Go.Proofs.YtbpjlancjdbehaaDoor
open Go.RowKit Go.Spec
/-- a key -/
def kv (a b : Int) : Value := .agg #[.int .i64 a, .int .i64 b]
def kL (a b : Int) : Lit := .string (keyBytes [.int .i64 a, .int .i64 b])
/-- a number of an int's size -/
def inI (a : Int) : Prop := -9223372036854775808 ≤ a ∧ a ≤ 9223372036854775807
theorem inI_wf {a : Int} (h : inI a) : (Lit.int .i64 a).wf = true := WalkArith.wf_i64 h
theorem tile_keyed : Go.Maps.Keyed Tryd.prog 23 :=
  Go.Maps.Keyed.of_law (deep_law_laid (m := 3) (by kernel_rfl) (by decide) (of_decide_eq_true (by kernel_rfl)) (by kernel_rfl) (by kernel_rfl))
theorem tile_key (a b : Int) (ha : inI a) (hb : inI b) : keyOf Tryd.prog 23 (kv a b) = some (kL a b) := by
  have h1 : Tryd.prog.keyType 23 = true := by kernel_rfl
  have h2 : Tryd.prog.types.size = (Tryd.prog.types.size - 1) + 1 := by kernel_rfl
  have hf : (kv a b).formed Tryd.prog 23 = true := by
    have c1 : Tryd.prog.cellsOf 23 = 2 := by kernel_rfl
    unfold kv
    simp [Value.formed, Tryd.underlying23, c1]
  have hk : Tryd.prog.keyLits (Tryd.prog.types.size + 1) 23 [.int .i64 a, .int .i64 b] = some [.int .i64 a, .int .i64 b] := by
    rw [h2]
    have c1 : Tryd.prog.cellsOf 23 = 2 := by kernel_rfl
    have c2 : Tryd.prog.cellsOf 3 = 1 := by kernel_rfl
    generalize Tryd.prog.types.size - 1 = n
    simp [Program.keyLits, Tryd.underlying23, Tryd.underlying3, c1, c2, inI_wf ha, inI_wf hb, List.range_succ]
  unfold keyOf
  rw [Tryd.underlying23]
  simp only [h1, hf, Bool.and_self, if_true]
  rw [show (kv a b).cells.toList = [.int .i64 a, .int .i64 b] from rfl, hk]
  rfl
theorem kv_inj {a b c d : Int} (h : kv a b = kv c d) : a = c ∧ b = d := by
  unfold kv at h
  simpa using h
theorem kL_ne {a b c d : Int} (ha : inI a) (hb : inI b) (hc : inI c) (hd : inI d) (h : ¬ (a = c ∧ b = d)) : kL a b ≠ kL c d := by
  intro e
  refine h (kv_inj (tile_keyed.inj (tile_key a b ha hb) ?_))
  rw [e]; exact tile_key c d hc hd
/-- a hash out of its cells -/
def unbyte : Value → Option UInt8
  | .int .u8 n => if 0 ≤ n ∧ n < 256 then some (UInt8.ofNat n.toNat) else none
  | _ => none
def unhv : Value → Option (List UInt8)
  | .agg cs => cs.toList.mapM unbyte
  | _ => none
theorem unbyte_bcell (b : UInt8) : unbyte (bcell b) = some b := by
  have := b.toNat_lt
  show (if 0 ≤ (b.toNat : Int) ∧ (b.toNat : Int) < 256 then some (UInt8.ofNat (b.toNat : Int).toNat) else none) = some b
  rw [if_pos ⟨by omega, by omega⟩]
  simp
theorem unbyte_inv {v : Value} {b : UInt8} (h : unbyte v = some b) : v = bcell b := by
  unfold unbyte at h
  split at h
  · split at h
    · rename_i n hn
      injection h with h
      rw [← h, ← bcell_mk _ (by omega)]
      congr 1
      omega
    · cases h
  · cases h
theorem unhv_hv (l : List UInt8) : unhv (hv l) = some l := by
  unfold unhv
  show (hc l).toList.mapM unbyte = some l
  rw [hc_toList]
  induction l with
  | nil => rfl
  | cons b l ih => simp [unbyte_bcell, ih]
theorem mapM_inv : ∀ (cs : List Value) (l : List UInt8), cs.mapM unbyte = some l → cs = l.map bcell
  | [], l, h => by
    simp at h; subst h; rfl
  | c :: cs, l, h => by
    rw [List.mapM_cons] at h
    cases hc : unbyte c with
    | none => simp [hc] at h
    | some b =>
      cases hm : cs.mapM unbyte with
      | none => simp [hc, hm] at h
      | some r =>
        simp [hc, hm] at h
        subst h
        rw [List.map_cons, ← unbyte_inv hc, ← mapM_inv cs r hm]
theorem unhv_inv {v : Value} {l : List UInt8} (h : unhv v = some l) : v = hv l := by
  unfold unhv at h
  split at h
  · rename_i cs
    have := mapM_inv _ _ h
    show Value.agg cs = Value.agg (hc l)
    unfold hc
    rw [← this]
  · cases h
/-- how a hash reads -/
def hR (v : Value) : Option (DataW Unit × List MemPlace) := (unhv v).map fun l => (.lit (.string l), [])
theorem hR_hv (l : List UInt8) : hR (hv l) = some (.lit (.string l), []) := by unfold hR; rw [unhv_hv]; rfl
theorem hR_inv {v : Value} {l : List UInt8} {ps : List MemPlace} (h : hR v = some (.lit (.string l), ps)) : v = hv l := by
  unfold hR at h
  cases hu : unhv v with
  | none => simp [hu] at h
  | some r =>
    rw [hu] at h
    simp only [Option.map_some, Option.some.injEq, Prod.mk.injEq, DataW.lit.injEq, Lit.string.injEq] at h
    rw [← h.1]; exact unhv_inv hu
/-- block b is a map, by level and index, to hashes -/
def TMap (w : World) (b n : Nat) (f : Int → Int → Option (List UInt8)) : Prop :=
  ∃ D : DataW Unit, w.ownsMap Tryd.prog 23 hR b n D ∧ ∀ i j, inI i → inI j → ∀ zd, D.atKey (kL i j) zd = match f i j with | some l => .lit (.string l) | none => zd
theorem TMap.lt {w : World} {b n : Nat} {f : Int → Int → Option (List UInt8)} (h : TMap w b n f) : b < w.heap.size := by
  obtain ⟨D, h, _⟩ := h; exact h.lt
theorem TMap.later {w w' : World} {b n : Nat} {f : Int → Int → Option (List UInt8)} (h : TMap w b n f) (hb : w'.heap[b]? = w.heap[b]?) : TMap w' b n f := by
  obtain ⟨D, ⟨es, clock, h1, h2⟩, h3⟩ := h
  exact ⟨D, ⟨es, clock, hb.trans h1, h2⟩, h3⟩
theorem TMap.made (w : World) : TMap (w.alloc (.map #[] 0)) w.heap.size 0 (fun _ _ => none) :=
  ⟨_, World.ownsMap_made w _ _ _, fun i j _ _ zd => rfl⟩
theorem TMap.congr {w : World} {b n : Nat} {f g : Int → Int → Option (List UInt8)} (h : TMap w b n f) (hfg : ∀ i j, inI i → inI j → f i j = g i j) : TMap w b n g := by
  obtain ⟨D, h1, h2⟩ := h
  exact ⟨D, h1, fun i j hi hj zd => by rw [← hfg i j hi hj]; exact h2 i j hi hj zd⟩
theorem TMap.mono {w : World} {b n n' : Nat} {f : Int → Int → Option (List UInt8)} (h : TMap w b n f) (hn : n ≤ n') : TMap w b n' f := by
  obtain ⟨D, h1, h2⟩ := h
  exact ⟨D, h1.mono hn, h2⟩
theorem TMap.look {w : World} {b n : Nat} {f : Int → Int → Option (List UInt8)} (h : TMap w b n f) (i j : Int) (hi : inI i) (hj : inI j) :
    (Instr.lookup 46 (.map (some b)) (kv i j) false).run Tryd.prog w = .ok (hv ((f i j).getD zero32)) w := by
  obtain ⟨D, h1, h2⟩ := h
  have hz : (zeroValue 29).run Tryd.prog w = .ok (hv zero32) w := by kernel_rfl
  obtain ⟨v, ps, hr, hv'⟩ := h1.lookup tile_keyed Tryd.underlying46 hz (hR_hv zero32) (tile_key i j hi hj)
  rw [h2 i j hi hj] at hv'
  rw [hr]
  cases hf : f i j with
  | none => rw [hf] at hv'; rw [hR_inv hv']; rfl
  | some l => rw [hf] at hv'; rw [hR_inv hv']; rfl
theorem TMap.look2 {w : World} {b n : Nat} {f : Int → Int → Option (List UInt8)} (h : TMap w b n f) (i j : Int) (hi : inI i) (hj : inI j) :
    (Instr.lookup 46 (.map (some b)) (kv i j) true).run Tryd.prog w = .ok (.tuple #[hv ((f i j).getD zero32), .bool (f i j).isSome]) w := by
  obtain ⟨D, h1, h2⟩ := h
  have hz : (zeroValue 29).run Tryd.prog w = .ok (hv zero32) w := by kernel_rfl
  obtain ⟨v, ps, hr, hv'⟩ := h1.look_ok tile_keyed Tryd.underlying46 hz (hR_hv zero32) (tile_key i j hi hj)
  have h3 := h2 i j hi hj
  rw [h3] at hv'
  rw [hr]
  cases hf : f i j with
  | none =>
    rw [hf] at hv' h3; rw [hR_inv hv']
    rw [Go.Maps.has_false_of_atKey (fun zd => h3 zd)]; rfl
  | some l =>
    rw [hf] at hv' h3; rw [hR_inv hv']
    rw [Go.Maps.has_true_of_atKey (fun zd => h3 zd)]; rfl
def putF (f : Int → Int → Option (List UInt8)) (i j : Int) (l : List UInt8) (a b : Int) : Option (List UInt8) := if a = i ∧ b = j then some l else f a b
theorem TMap.put {w : World} {b n : Nat} {f : Int → Int → Option (List UInt8)} (h : TMap w b n f) (hn : n < maxLen) (i j : Int) (hi : inI i) (hj : inI j) (l : List UInt8) :
    ∃ w', (Instr.mapUpdate 46 (.map (some b)) (kv i j) (hv l)).run Tryd.prog w = .ok () w' ∧ TMap w' b (n + 1) (putF f i j l) ∧ w.mapTurned w' b := by
  obtain ⟨D, h1, h2⟩ := h
  obtain ⟨w', hr, h3, h4⟩ := h1.store tile_keyed Tryd.underlying46 hn (tile_key i j hi hj) (hR_hv l)
  refine ⟨w', hr, ⟨_, h3, fun a c ha hc zd => ?_⟩, h4⟩
  unfold putF
  by_cases he : a = i ∧ c = j
  · obtain ⟨rfl, rfl⟩ := he
    rw [if_pos ⟨rfl, rfl⟩]
    exact Go.Maps.atKey_put_same h1.isMap (by unfold kL; trivial) _ _
  · rw [if_neg he, Go.Maps.atKey_put_other (kL_ne ha hc hi hj he)]
    exact h2 a c ha hc zd
theorem wpList_tile_look {w : World} {ops : Array Oper} {rest : List Oper} {o : Oper} {a : Act} {Q : Exit → Act → World → Prop}
    (hg : o.guard = none) (m x : Operand) (t : TypeId) (hop : o.op = Op.lookup t m x false) (ht : t = 46) {b n : Nat} {f : Int → Int → Option (List UInt8)} (hm : a.eval m = .map (some b)) (h : TMap w b n f) (i j : Int) (hx : a.eval x = kv i j) (hi : inI i) (hj : inI j) (T : Option (List UInt8)) (hT : f i j = T)
    (hK : wpList Tryd.prog ops Q rest (a.put o.dst (hv (T.getD zero32))) w) : wpList Tryd.prog ops Q (o :: rest) a w := by
  subst ht
  subst hT
  refine wpList_plain hg fun K' hK' => ?_
  have hr := h.look i j hi hj
  unfold Oper.wp
  simp only [execOp, hop, hm, hx, Sem.run_bind, hr, Result.andThen_ok, Sem.run_pure]
  exact hK' _ _ hK
theorem wpList_tile_look2 {w : World} {ops : Array Oper} {rest : List Oper} {o : Oper} {a : Act} {Q : Exit → Act → World → Prop}
    (hg : o.guard = none) (m x : Operand) (t : TypeId) (hop : o.op = Op.lookup t m x true) (ht : t = 46) {b n : Nat} {f : Int → Int → Option (List UInt8)} (hm : a.eval m = .map (some b)) (h : TMap w b n f) (i j : Int) (hx : a.eval x = kv i j) (hi : inI i) (hj : inI j) (T : Option (List UInt8)) (hT : f i j = T)
    (hK : wpList Tryd.prog ops Q rest (a.put o.dst (.tuple #[hv (T.getD zero32), .bool T.isSome])) w) : wpList Tryd.prog ops Q (o :: rest) a w := by
  subst ht
  subst hT
  refine wpList_plain hg fun K' hK' => ?_
  have hr := h.look2 i j hi hj
  unfold Oper.wp
  simp only [execOp, hop, hm, hx, Sem.run_bind, hr, Result.andThen_ok, Sem.run_pure]
  exact hK' _ _ hK
theorem wpList_tile_put {w : World} {ops : Array Oper} {rest : List Oper} {o : Oper} {a : Act} {Q : Exit → Act → World → Prop}
    (hg : o.guard = none) (m x y : Operand) (t : TypeId) (hop : o.op = Op.mapUpdate t m x y) (ht : t = 46) {b n : Nat} {f : Int → Int → Option (List UInt8)} (hm : a.eval m = .map (some b)) (h : TMap w b n f) (hn : n < maxLen) (i j : Int) (hx : a.eval x = kv i j) (hi : inI i) (hj : inI j)
    (l : List UInt8) (hy : a.eval y = hv l)
    (hK : ∀ w', TMap w' b (n + 1) (putF f i j l) → w.grownBy w' (some b) → wpList Tryd.prog ops Q rest (a.put o.dst undef) w') : wpList Tryd.prog ops Q (o :: rest) a w := by
  subst ht
  refine wpList_plain hg fun K' hK' => ?_
  obtain ⟨w', hr, h1, h2⟩ := h.put hn i j hi hj l
  unfold Oper.wp
  simp only [execOp, hop, hm, hx, hy, Sem.run_bind, hr, Result.andThen_ok, Sem.run_pure]
  exact hK' _ _ (hK w' h1 h2.grown)
theorem wpStill_tile_look {w : World} {ops : Array Oper} {rest : List Oper} {o : Oper} {a : Act} {Q : Act → Prop} (hgd : o.guard = none) (m x : Operand) (t : TypeId) (hop : o.op = .lookup t m x false) (ht : t = 46)
    {b n : Nat} {f : Int → Int → Option (List UInt8)} (hm : a.eval m = .map (some b)) (h : TMap w b n f) (i j : Int) (hx : a.eval x = kv i j) (hi : inI i) (hj : inI j) (T : Option (List UInt8)) (hT : f i j = T)
    (hK : wpStill Tryd.prog ops w Q rest (a.put o.dst (hv (T.getD zero32)))) : wpStill Tryd.prog ops w Q (o :: rest) a := by
  subst ht
  subst hT
  unfold wpStill
  rw [if_pos (by simp [Region.wanted, hgd])]
  have hr := h.look i j hi hj
  unfold Oper.still execOp
  simp only [hop, hm, hx, Sem.run_bind, hr, Result.andThen_ok, Sem.run_pure]
  exact ⟨rfl, hK⟩
theorem wpQuiet_tile_look {C : World → Prop} {ops : Array Oper} {rest : List Oper} {o : Oper} {a : Act} {Q : Act → Prop} (hgd : o.guard = none) (m x : Operand) (t : TypeId) (hop : o.op = .lookup t m x false) (ht : t = 46)
    {b n : Nat} {f : Int → Int → Option (List UInt8)} (hm : a.eval m = .map (some b)) (h : ∀ w', C w' → TMap w' b n f) (i j : Int) (hx : a.eval x = kv i j) (hi : inI i) (hj : inI j) (T : Option (List UInt8)) (hT : f i j = T)
    (hK : wpQuiet Tryd.prog ops C Q rest (a.put o.dst (hv (T.getD zero32)))) : wpQuiet Tryd.prog ops C Q (o :: rest) a := by
  subst ht
  subst hT
  refine wpQuiet_step fun K hK' => ?_
  rw [if_pos (by simp [Region.wanted, hgd])]
  refine ⟨_, fun w' hw' => ?_, hK' _ hK⟩
  have hr := (h w' hw').look i j hi hj
  unfold Oper.quietAt execOp
  simp only [hop, hm, hx, Sem.run_bind, hr, Result.andThen_ok, Sem.run_pure]
  exact ⟨rfl, rfl⟩
end Go.Proofs.YtbpjlancjdbehaaDoor
/- tiles of leaves; none, within, Size, Node -/
namespace Go.Spec
open Go.RowKit
variable {P : Program} {w : World}
theorem wpList_store_newH {ops : Array Oper} {rest : List Oper} {o : Oper} {a : Act} {Q : Exit → Act → World → Prop} (hgd : o.guard = none) (ty : TypeId) (x y : Operand) (ho : o.op = .store ty x y)
    (g : Nat) (hx : a.eval x = .pointer (some ⟨g, 0, none⟩)) (hg : g = w.heap.size) (l : List UInt8) (hy : a.eval y = hv l) (cur : Array Value) (t : TypeId) (hl : l.length = cur.size)
    (hi : (P.info? ty).map (·.size) = some l.length)
    (h : wpList P ops Q rest (a.put o.dst undef) (w.alloc (.cells (hc l) t))) : wpList P ops Q (o :: rest) a (w.alloc (.cells cur t)) := by
  subst hg
  exact wpList_store_new hgd ty x y ho hx l hy cur t hl hi h
theorem wpList_load_newH {ops : Array Oper} {rest : List Oper} {o : Oper} {a : Act} {Q : Exit → Act → World → Prop} (hgd : o.guard = none) (ty : TypeId) (x : Operand) (ho : o.op = .load ty x)
    (g : Nat) (hx : a.eval x = .pointer (some ⟨g, 0, none⟩)) (hg : g = w.heap.size) (l : List UInt8) (t : TypeId) (d : TypeDesc)
    (hu : P.underlying ty = some d) (hd : (match d with | .struct _ | .array _ _ => true | _ => false) = true) (hi : (P.info? ty).map (·.size) = some l.length)
    (h : wpList P ops Q rest (a.put o.dst (hv l)) (w.alloc (.cells (hc l) t))) : wpList P ops Q (o :: rest) a (w.alloc (.cells (hc l) t)) := by
  subst hg
  exact wpList_load_new hgd ty x ho hx l t d hu hd hi h
end Go.Spec
namespace Go.Proofs.YtbpjlancjdbehaaDoor
open Go.RowKit Go.Spec
/-- in block g are tiles of leaves, whose map is in block b -/
structure TilesAt (w : World) (g b : Nat) (l : List (List UInt8)) : Prop where
  blk : Blk w g #[.map (some b), .int .i64 (l.length : Int)] 48
  map : ∃ n, n ≤ 16 * l.length ∧ TMap w b n (tileZ l)
  r32 : ∀ x ∈ l, x.length = 32
  len : l.length ≤ 4096
theorem TilesAt.ne {w : World} {g b : Nat} {l : List (List UInt8)} (h : TilesAt w g b l) : b ≠ g := by
  obtain ⟨n, _, D, ⟨es, c, h1, _⟩, _⟩ := h.map
  have h2 := h.blk
  unfold Blk at h2
  intro e
  rw [e, h2] at h1
  cases h1
theorem TilesAt.lt {w : World} {g b : Nat} {l : List (List UInt8)} (h : TilesAt w g b l) : g < w.heap.size ∧ b < w.heap.size := by
  obtain ⟨n, _, hm⟩ := h.map
  exact ⟨h.blk.lt, hm.lt⟩
theorem TilesAt.kept {w w' : World} {g b : Nat} {l : List (List UInt8)} (h : TilesAt w g b l) (hg : w'.heap[g]? = w.heap[g]?) (hb : w'.heap[b]? = w.heap[b]?) : TilesAt w' g b l := by
  obtain ⟨n, hn, hm⟩ := h.map
  exact ⟨hg.trans h.blk, ⟨n, hn, hm.later hb⟩, h.r32, h.len⟩
theorem TilesAt.later {w w' : World} {g b : Nat} {l : List (List UInt8)} (h : TilesAt w g b l) (hb : Below w.heap.size w w') : TilesAt w' g b l :=
  h.kept (hb.block g h.lt.1) (hb.block b h.lt.2)
theorem TilesAt.c0 {w : World} {g b : Nat} {l : List (List UInt8)} (h : TilesAt w g b l) : w.cell? ⟨g, 0, none⟩ = some (.map (some b)) := h.blk.cell 0
theorem TilesAt.c1 {w : World} {g b : Nat} {l : List (List UInt8)} (h : TilesAt w g b l) : w.cell? ⟨g, 1, none⟩ = some (.int .i64 (l.length : Int)) := h.blk.cell 1
/-- w' is w but for the blocks g and b -/
structure Two (g b : Nat) (w w' : World) : Prop where
  os : w'.os = w.os
  tape : w'.tape = w.tape
  output : w'.output = w.output
  size : w.heap.size ≤ w'.heap.size
  block : ∀ k, k < w.heap.size → k ≠ g → k ≠ b → w'.heap[k]? = w.heap[k]?
theorem Two.refl (g b : Nat) (w : World) : Two g b w w := ⟨rfl, rfl, rfl, Nat.le_refl _, fun _ _ _ _ => rfl⟩
theorem Two.trans {g b : Nat} {u v w : World} (h : Two g b u v) (k : Two g b v w) : Two g b u w :=
  ⟨k.os.trans h.os, k.tape.trans h.tape, k.output.trans h.output, Nat.le_trans h.size k.size, fun i hi h1 h2 => (k.block i (Nat.lt_of_lt_of_le hi h.size) h1 h2).trans (h.block i hi h1 h2)⟩
theorem Two.of {g b : Nat} {w w' : World} (h : Below w.heap.size w w') : Two g b w w' := ⟨h.os, h.tape, h.output, h.size, fun k hk _ _ => h.block k hk⟩
theorem Two.ofG {g b : Nat} {w w' : World} (h : w.grownBy w' (some b)) : Two g b w w' := ⟨h.os, h.tape, h.output, h.size, fun k hk _ h2 => h.block k hk (fun e => h2 (by injection e))⟩
theorem Two.setCell {g b : Nat} (w : World) (j : Nat) (v : Value) : Two g b w (w.setCell ⟨g, j, none⟩ v) :=
  ⟨rfl, rfl, rfl, by simp [World.setCell], fun k _ h1 _ => by simp [World.setCell, Array.getElem?_modify]; intro h; exact absurd h.symm h1⟩
/-- blocks that the call itself made may be written, too -/
theorem Two.setRow {g b r : Nat} {w w' : World} (h : Two g b w w') (hr : w.heap.size ≤ r) (cs : Array Value) : Two g b w (w'.setRow r cs) :=
  ⟨h.os, h.tape, h.output, by rw [setRow_size']; exact h.size, fun k hk h1 h2 => by rw [setRow_ne (by omega)]; exact h.block k hk h1 h2⟩
theorem Two.below {g b B : Nat} {w w' : World} (h : Two g b w w') (hB : B ≤ w.heap.size) (hg : B ≤ g) (hb : B ≤ b) : Below B w w' :=
  ⟨h.os, h.tape, h.output, h.size, fun k hk => h.block k (by omega) (by omega) (by omega)⟩
theorem Two.blk {g b k : Nat} {w w' : World} {cs : Array Value} {t : TypeId} (h : Two g b w w') (hk : Blk w k cs t) (h1 : k ≠ g) (h2 : k ≠ b) : Blk w' k cs t := (h.block k hk.lt h1 h2).trans hk
set_option maxHeartbeats 400000 in
theorem none_any (g b : Nat) (l : List (List UInt8)) (w : World) (h : TilesAt w g b l) :
    Calls Tryd.prog 41 #[.pointer (some ⟨g, 0, none⟩)] w fun e w' => e = .returned (.bool false) ∧ w = w' := by
  have c0 := h.c0
  have hq := fun w => run_eql_map_nil_sl (P := Tryd.prog) w 46 _ _ (some b) Tryd.underlying46
  clear h
  go_enter Tryd.func41, Tryd.ntmps41
  go_wp2
  go_ret
  exact ⟨rfl, rfl⟩
set_option maxHeartbeats 400000 in
theorem none_nil (w : World) :
    Calls Tryd.prog 41 #[.pointer none] w fun e w' => e = .returned (.bool true) ∧ w = w' := by
  go_enter Tryd.func41, Tryd.ntmps41
  go_wp2
  go_ret
  exact ⟨rfl, rfl⟩
set_option maxHeartbeats 400000 in
theorem none_empty (g : Nat) (w : World) (c0 : w.cell? ⟨g, 0, none⟩ = some (.map none)) :
    Calls Tryd.prog 41 #[.pointer (some ⟨g, 0, none⟩)] w fun e w' => e = .returned (.bool true) ∧ w = w' := by
  have hq := fun w => run_eql_map_nil_sl (P := Tryd.prog) w 46 _ _ none Tryd.underlying46
  go_enter Tryd.func41, Tryd.ntmps41
  go_wp2
  go_ret
  exact ⟨rfl, rfl⟩
def withE (l : List (List UInt8)) (n : Int) : Int := if 0 ≤ n ∧ n ≤ l.length then 0 else 82
set_option maxHeartbeats 1000000 in
theorem within_any (g b : Nat) (l : List (List UInt8)) (n : Int) (w : World) (h : TilesAt w g b l) :
    Calls Tryd.prog 43 #[.pointer (some ⟨g, 0, none⟩), .int .i64 n] w fun e w' => e = .returned (.int .i64 (withE l n)) ∧ w = w' := by
  have c1 := h.c1
  have hN := hid (none_any g b l w h)
  clear h
  unfold withE
  by_cases h0 : n < 0
  · have d0 : decide (n < 0) = true := by simpa using h0
    rw [if_neg (by omega)]
    clear h0
    go_enter Tryd.func43, Tryd.ntmps43
    go_wp2_with (go_at_call 41; refine hN.out.mono ?_; rintro e w1 ⟨rfl, rfl⟩)
    go_ret
    exact ⟨rfl, rfl⟩
  · have d0 : decide (n < 0) = false := by simpa using h0
    by_cases h1 : (l.length : Int) < n
    · have d1 : decide ((l.length : Int) < n) = true := by simpa using h1
      rw [if_neg (by omega)]
      clear h0 h1
      go_enter Tryd.func43, Tryd.ntmps43
      go_wp2_with (go_at_call 41; refine hN.out.mono ?_; rintro e w1 ⟨rfl, rfl⟩)
      go_ret
      exact ⟨rfl, rfl⟩
    · have d1 : decide ((l.length : Int) < n) = false := by simpa using h1
      rw [if_pos (by omega)]
      clear h0 h1
      go_enter Tryd.func43, Tryd.ntmps43
      go_wp2_with (go_at_call 41; refine hN.out.mono ?_; rintro e w1 ⟨rfl, rfl⟩)
      go_ret
      exact ⟨rfl, rfl⟩
set_option maxHeartbeats 400000 in
theorem tsize_any (g b : Nat) (l : List (List UInt8)) (w : World) (h : TilesAt w g b l) :
    Calls Tryd.prog 23 #[.pointer (some ⟨g, 0, none⟩)] w fun e w' => e = .returned (.int .i64 (l.length : Int)) ∧ w = w' := by
  have c1 := h.c1
  have hN := hid (none_any g b l w h)
  clear h
  go_enter Tryd.func23, Tryd.ntmps23
  go_wp2_with (go_at_call 41; refine hN.out.mono ?_; rintro e w1 ⟨rfl, rfl⟩)
  go_ret
  exact ⟨rfl, rfl⟩
theorem tileZ_32 {l : List (List UInt8)} (h : ∀ x ∈ l, x.length = 32) (i j : Int) : ((tileZ l i j).getD zero32).length = 32 := by
  unfold tileZ tileN
  split
  · split
    · exact rootL_len _ _ (Nat.le_refl _) (seg_32 h _ _)
    · rfl
  · rfl
set_option maxHeartbeats 2000000 in
theorem tnode_any (g b : Nat) (l : List (List UInt8)) (i j : Int) (w : World) (h : TilesAt w g b l) (hi : inI i) (hj : inI j) :
    Calls Tryd.prog 12 #[.pointer (some ⟨g, 0, none⟩), .int .i64 i, .int .i64 j] w fun e w' => e = .returned (.tuple #[hv ((tileZ l i j).getD zero32), .bool (tileZ l i j).isSome]) ∧ Below w.heap.size w w' := by
  have c0 := h.c0
  have h32 := tileZ_32 h.r32 i j
  obtain ⟨n, _, hm⟩ := h.map
  have hw1 : Below w.heap.size w (w.alloc (.cells (hc zero32) 29)) := (Below.refl _ w).alloc (Nat.le_refl _) _
  have HN := hid (none_any g b l _ (h.later hw1))
  have HM := hid (hm.later (hw1.block b h.lt.2))
  have hlt := h.lt.1
  clear h
  have Hs := hid (show (Tryd.prog.info? 29).map (·.size) = some ((tileZ l i j).getD zero32).length by rw [h32]; exact Tryd.sizeHash)
  have Hs2 := hid (show (Tryd.prog.info? 29).map (·.size) = some (hc ((tileZ l i j).getD zero32)).size by rw [hc_size, h32]; exact Tryd.sizeHash)
  have Hz := hid (show (hc ((tileZ l i j).getD zero32)).size = (hc zero32).size by rw [hc_size, h32]; rfl)
  have Hz2 := hid (show ((tileZ l i j).getD zero32).length = (hc zero32).size by rw [h32]; rfl)
  have HB : Below w.heap.size w ((w.alloc (.cells (hc zero32) 29)).alloc (.cells (hc ((tileZ l i j).getD zero32)) 29)) := hw1.alloc (by simp) _
  have hZ : Blk ((w.alloc (.cells (hc zero32) 29)).alloc (.cells (hc ((tileZ l i j).getD zero32)) 29)) w.heap.size (hc zero32) 29 := (Blk.new _ _ _).alloc _
  generalize hT : tileZ l i j = T at *
  have HT := hid hT; clear hT
  clear hm h32 hw1
  go_enter Tryd.func12, Tryd.ntmps12
  go_wp2_with (first
    | (go_at_call 41; refine HN.out.mono ?_; rintro e w1 ⟨rfl, rfl⟩)
    | (at_lookup; refine wpList_tile_look2 rfl _ _ _ rfl rfl rfl HM.out i j rfl hi hj T HT.out ?_)
    | ((with_reducible show wpList _ _ _ ({ dst := _, op := Op.store _ (Operand.tmp 8) _, type := _, pos := _, after := _, guard := _ } :: _) _ _); refine wpList_store_newH rfl 29 _ _ rfl (w.heap.size + 1) rfl (by simp) (T.getD zero32) rfl (hc zero32) 29 Hz2.out Hs.out ?_)
    | ((with_reducible show wpList _ _ _ ({ dst := _, op := Op.store _ (Operand.tmp 6) _, type := _, pos := _, after := _, guard := _ } :: _) _ _); refine wpList_store_blk rfl 29 _ _ rfl w.heap.size rfl (hc (T.getD zero32)) rfl _ _ hZ Hz.out Hs2.out (hc_row_one _) ?_)
    | ((with_reducible show wpList _ _ _ ({ dst := _, op := Op.load 29 _, type := _, pos := _, after := _, guard := _ } :: _) _ _); refine wpList_load_newH rfl 29 _ rfl (w.heap.size + 1) rfl (by simp) (T.getD zero32) 29 _ Tryd.underlying29 rfl Hs.out ?_))
  refine bodyPost_ret (results_cell2 rfl _ w.heap.size 29 _ (0, 0) _ rfl (hZ.setRow) Tryd.underlying29 rfl Hs2.out) rfl ⟨rfl, ?_⟩
  exact HB.setRow (by omega) _
end Go.Proofs.YtbpjlancjdbehaaDoor
/- (t *Tiles) Add -/
namespace Go.Proofs.YtbpjlancjdbehaaDoor
open Go.RowKit Go.Spec
theorem ShaG.two {w w' : World} {g b : Nat} {l : List (List UInt8)} (h : ShaG w) (hT : TilesAt w g b l) (h2 : Two g b w w') : ShaG w' := by
  have key : ∀ (t : Nat) (ns : List Nat), 0 < ns.length → Tab w t ns → Tab w' t ns := by
    intro t ns hn ht
    have h0 := ht.at_ 0 hn
    have n1 : t ≠ g := by
      intro e
      rw [e, hT.c0] at h0; cases h0
    have n2 : t ≠ b := by
      intro e
      obtain ⟨n, _, D, ⟨es, c, hb, _⟩, _⟩ := hT.map
      rw [e] at h0
      simp [World.cell?, hb] at h0
    have hh := h2.block t ht.lt n1 n2
    exact ⟨Nat.lt_of_lt_of_le ht.lt h2.size, fun i hi => by
      have := ht.at_ i hi
      unfold World.cell? at this ⊢
      rw [hh]; exact this⟩
  exact ⟨key _ _ (by decide) h.first, key _ _ (by decide) h.rounds⟩
/-- what the map holds while a leaf is put in -/
def addZ (l : List (List UInt8)) (x : List UInt8) (lv : Nat) (a b : Int) : Option (List UInt8) := if 0 ≤ a ∧ 0 ≤ b then addG l x lv a.toNat b.toNat else none
theorem addZ_zero (l : List (List UInt8)) (x : List UInt8) (a b : Int) : putF (tileZ l) 0 (l.length : Int) x a b = addZ l x 0 a b := by
  unfold putF addZ tileZ
  by_cases h : 0 ≤ a ∧ 0 ≤ b
  · rw [if_pos h, if_pos h, addG_zero]
    by_cases h2 : a = 0 ∧ b = (l.length : Int)
    · rw [if_pos h2, if_pos ⟨by omega, by omega⟩]
    · rw [if_neg h2, if_neg (by omega)]
  · rw [if_neg h, if_neg h, if_neg (by omega)]
theorem addZ_succ (l : List (List UInt8)) (x : List UInt8) (lv i : Nat) (h : (i + 1) * 2 ^ lv = l.length + 1) (hi : i % 2 = 1) (a b : Int) :
    putF (addZ l x lv) ((lv + 1 : Nat) : Int) ((i / 2 : Nat) : Int) (rootL (seg (l ++ [x]) (i / 2 * 2 ^ (lv + 1)) ((i / 2 + 1) * 2 ^ (lv + 1)))) a b = addZ l x (lv + 1) a b := by
  unfold putF addZ
  by_cases h1 : 0 ≤ a ∧ 0 ≤ b
  · rw [if_pos h1, if_pos h1, addG_succ l x lv i h hi]
    by_cases h2 : a = ((lv + 1 : Nat) : Int) ∧ b = ((i / 2 : Nat) : Int)
    · rw [if_pos h2, if_pos ⟨by omega, by omega⟩]
    · rw [if_neg h2, if_neg (by omega)]
  · rw [if_neg h1, if_neg h1, if_neg (by omega)]
theorem addZ_end (l : List (List UInt8)) (x : List UInt8) (lv i : Nat) (h : (i + 1) * 2 ^ lv = l.length + 1) (hi : i % 2 = 0) (a b : Int) : addZ l x lv a b = tileZ (l ++ [x]) a b := by
  unfold addZ tileZ
  split
  · exact addG_end l x lv i h hi _ _
  · rfl
theorem addZ_left (l : List (List UInt8)) (x : List UInt8) (lv i : Nat) (h : (i + 1) * 2 ^ lv = l.length + 1) (hi : i % 2 = 1) : addZ l x lv (lv : Int) ((i : Int) - 1) = some (rootL (seg l ((i - 1) * 2 ^ lv) (i * 2 ^ lv))) := by
  unfold addZ
  rw [if_pos ⟨by omega, by omega⟩, show ((lv : Int)).toNat = lv by omega, show ((i : Int) - 1).toNat = i - 1 by omega]
  exact addG_left l x lv i h hi
set_option maxHeartbeats 1000000 in
theorem tadd_full (g b : Nat) (l : List (List UInt8)) (x : List UInt8) (w : World) (h : TilesAt w g b l) (hl : l.length = 4096) :
    Calls Tryd.prog 22 #[.pointer (some ⟨g, 0, none⟩), hv x] w fun e w' => e = .returned (.int .i64 60) ∧ Below w.heap.size w w' := by
  have hw1 : Below w.heap.size w (w.alloc (.cells (hc x) 29)) := (Below.refl _ w).alloc (Nat.le_refl _) _
  have hT := h.later hw1
  have c1 := hT.c1
  have HN := hid (none_any g b l _ hT)
  have hlt := h.lt.1
  have d : decide ((4096 : Int) ≤ (l.length : Int)) = true := by simp; omega
  clear h hT hl
  go_enter Tryd.func22, Tryd.ntmps22
  go_wp2_with (go_at_call 41; refine HN.out.mono ?_; rintro e w1 ⟨rfl, rfl⟩)
  go_ret
  exact ⟨rfl, hw1⟩
theorem pow_le_len {lv i n : Nat} (h : (i + 1) * 2 ^ lv = n + 1) (hn : n < 4096) : lv ≤ 12 ∧ i ≤ 4096 := by
  have hp : 0 < 2 ^ lv := Nat.pow_pos (by omega)
  have h1 : 2 ^ lv ≤ (i + 1) * 2 ^ lv := Nat.le_mul_of_pos_left _ (by omega)
  have h2 : i + 1 ≤ (i + 1) * 2 ^ lv := Nat.le_mul_of_pos_right _ hp
  refine ⟨?_, by omega⟩
  rcases Nat.lt_or_ge 12 lv with h3 | h3
  · have h5 : 2 ^ 13 ≤ 2 ^ lv := Nat.pow_le_pow_right (by omega) (by omega)
    have h4 : (2 : Nat) ^ 13 = 8192 := rfl
    omega
  · exact h3
/-- the number in the second cell of a block -/
def cellN (w : World) (A : Nat) : Nat := match w.cell? ⟨A, 1, none⟩ with | some (.int _ k) => k.toNat | _ => 0
theorem cellN_of {w : World} {A : Nat} {q : IntKind} {k : Int} (h : w.cell? ⟨A, 1, none⟩ = some (.int q k)) : cellN w A = k.toNat := by unfold cellN; rw [h]
set_option maxHeartbeats 4000000 in
theorem tadd_any (g b : Nat) (l : List (List UInt8)) (x : List UInt8) (w : World) (h : TilesAt w g b l) (hx : x.length = 32) (hl : l.length < 4096) (hG : ShaG w) :
    Calls Tryd.prog 22 #[.pointer (some ⟨g, 0, none⟩), hv x] w fun e w' => e = .returned (.int .i64 0) ∧ TilesAt w' g b (l ++ [x]) ∧ Two g b w w' := by
  have hw1 : Below w.heap.size w (w.alloc (.cells (hc x) 29)) := (Below.refl _ w).alloc (Nat.le_refl _) _
  have hT := h.later hw1
  have hne := h.ne
  have Hlt := hid h.lt
  have Hr32 := hid h.r32
  have c1 := hT.c1
  have HN := hid (none_any g b l _ hT)
  have HGw := hid hG
  have d : decide ((4096 : Int) ≤ (l.length : Int)) = false := by simp; omega
  have HT := hid hT; have HG := hid hG; have Hx := hid hx; have Hh := hid h
  have hglt := h.lt.1
  have ix := hx
  clear h hT hx hG
  obtain ⟨n, hn⟩ : ∃ n, l.length = n := ⟨_, rfl⟩
  rw [hn] at d hl c1
  have Hn := hid hn
  go_enter Tryd.func22, Tryd.ntmps22
  go_upto_region 6 with (first
    | (go_at_call 41; refine HN.out.mono ?_; rintro e w1 ⟨rfl, rfl⟩)
    | fail)
  have hL0 : Blk ((w.alloc (.cells (hc x) 29)).alloc (.cells #[.int .i64 0, .int .i64 (n : Int)] 23)) w.heap.size (hc x) 29 := (Blk.new _ _ _).alloc _
  have hA0 : Blk ((w.alloc (.cells (hc x) 29)).alloc (.cells #[.int .i64 0, .int .i64 (n : Int)] 23)) (w.heap.size + 1) #[.int .i64 0, .int .i64 (n : Int)] 23 := Blk.new' _ _ _ (by simp)
  have hB0 : Below w.heap.size w ((w.alloc (.cells (hc x) 29)).alloc (.cells #[.int .i64 0, .int .i64 (n : Int)] 23)) := hw1.alloc (by simp) _
  have hT0 := Hh.out.later hB0
  generalize ((w.alloc (.cells (hc x) 29)).alloc (.cells #[.int .i64 0, .int .i64 (n : Int)] 23)) = w0 at *
  obtain ⟨L, hL⟩ : ∃ L, w.heap.size = L := ⟨_, rfl⟩
  obtain ⟨A, hA⟩ : ∃ A, w.heap.size + 1 = A := ⟨_, rfl⟩
  rw [hA] at hA0
  simp only [hA]
  rw [hL] at hL0
  simp only [hL]
  have HL := hid hL; have HA := hid hA
  have hS1 := Tryd.sizeHash
  have Hsx := hid (show (Tryd.prog.info? 29).map (·.size) = some (hc x).size by rw [hc_size, Hx.out]; exact Tryd.sizeHash)
  have HS23 := hid (show (Tryd.prog.info? 23).map (·.size) = some 2 by kernel_rfl)
  have nLA : L ≠ A := by omega
  have nLg : L ≠ g := by omega
  have nAg : A ≠ g := by omega
  have nLb : L ≠ b := by have := Hlt.out.2; omega
  have nAb : A ≠ b := by have := Hlt.out.2; omega
  have HB0 := hid hB0
  clear hL hA hB0 hw1 HT HN c1 hS1
  refine wp_region_tail 6 (by kernel_rfl) (by kernel_rfl) ?_
  intro w1 he1 hb1
  simp only [List.take_succ_cons, List.take_zero, List.drop_succ_cons, List.drop_zero]
  have HT1 := hid (hT0.kept (w' := w1) (by rw [he1]) (by rw [he1]))
  have hL1 := hid (hL0.heap (w' := w1) he1)
  have hA1 := hid (hA0.heap (w' := w1) he1)
  have HB1 := hid (bth HB0.out hb1)
  have c0 := HT1.out.c0
  obtain ⟨m, hm0, hm⟩ := HT1.out.map
  have HM := hid hm
  have hml : m < maxLen := by have := Hn.out; unfold maxLen; omega
  have Hm0 := hid hm0
  clear hT0 hL0 hA0 HB0 he1 hb1 hm hm0
  repeat (first
    | ((with_reducible show wpStill _ _ _ _ ({ dst := _, op := Op.load 23 _, type := _, pos := _, after := _, guard := _ } :: _) _); refine wpStill_load_blk rfl 23 _ rfl A rfl 23 _ _ hA1.out Tryd.underlying23 rfl HS23.out ?_)
    | ((with_reducible show wpStill _ _ _ _ ({ dst := _, op := Op.load 29 _, type := _, pos := _, after := _, guard := _ } :: _) _); refine wpStill_load_blk rfl 29 _ rfl L rfl 29 _ _ hL1.out Tryd.underlying29 rfl Hsx.out ?_)
    | still_step)
  refine wpStill_nil ?_
  go_wp2_with (at_mapUpdate; refine wpList_tile_put rfl _ _ _ _ rfl rfl rfl HM.out hml 0 (n : Int) rfl (by unfold inI; omega) (by unfold inI; omega) x rfl ?_; intro w2 hm2 hg2)
  have h2 : Two g b w1 w2 := Two.ofG hg2
  have HW2 := hid ((Two.of HB1.out).trans h2)
  have hS0 : rootL (seg (l ++ [x]) (n * 2 ^ 0) ((n + 1) * 2 ^ 0)) = x := by
    have := tileN_zero (l ++ [x]) n (by rw [List.length_append, Hn.out]; simp)
    unfold tileN at this
    rw [if_pos (by rw [List.length_append, Hn.out]; simp)] at this
    injection this with this
    rw [this]
    simp [List.getD_eq_getElem?_getD, ← Hn.out]
  have HR := hid (show ∃ lv i : Nat, (i + 1) * 2 ^ lv = n + 1 ∧ Blk w2 L (hc (rootL (seg (l ++ [x]) (i * 2 ^ lv) ((i + 1) * 2 ^ lv)))) 29 ∧ Blk w2 A #[.int .i64 (lv : Int), .int .i64 (i : Int)] 23 ∧ Blk w2 g #[.map (some b), .int .i64 (n : Int)] 48 ∧ (∃ m, m ≤ 16 * n + lv + 1 ∧ TMap w2 b m (addZ l x lv)) ∧ Two g b w w2 from
    ⟨0, n, by simp, by rw [hS0]; exact h2.blk hL1.out nLg nLb, h2.blk hA1.out nAg nAb, by
      have := HT1.out.blk
      rw [Hn.out] at this
      exact (hg2.block g HT1.out.lt.1 (fun e => by injection e with e; exact hne e.symm)).trans this, ⟨m + 1, by have := Hm0.out; rw [Hn.out] at this; omega, hm2.congr fun a c ha hc => by rw [← Hn.out]; exact addZ_zero l x a c⟩, HW2.out⟩)
  have H32 := hid (show ∀ y ∈ l ++ [x], y.length = 32 from fun y hy => by
    rcases List.mem_append.1 hy with h | h
    · exact Hr32.out y h
    · rw [List.mem_singleton.1 h]; exact Hx.out)
  have HGt := hid (fun w0 (h0 : Two g b w w0) => HGw.out.two Hh.out h0)
  clear h2 hS0 hm2 hg2 hL1 hA1 c0 HM hml Hm0 HT1 HB1 HW2 Hsx
  go_frame
  go_loopw [26] (fun _ wr => ∃ lv i : Nat, (i + 1) * 2 ^ lv = n + 1 ∧ Blk wr L (hc (rootL (seg (l ++ [x]) (i * 2 ^ lv) ((i + 1) * 2 ^ lv)))) 29 ∧ Blk wr A #[.int .i64 (lv : Int), .int .i64 (i : Int)] 23 ∧ Blk wr g #[.map (some b), .int .i64 (n : Int)] 48 ∧ (∃ m, m ≤ 16 * n + lv + 1 ∧ TMap wr b m (addZ l x lv)) ∧ Two g b w wr) (fun _ wr => cellN wr A)
  case atStart => exact HR.out
  case round =>
    clear HR
    obtain ⟨lv, i, hi, hL, hA, hg, ⟨m, hm0, hm⟩, h2⟩ := hrel
    obtain ⟨hl12, hi4⟩ := pow_le_len hi hl
    have a0 := hA.cell 0
    have a1 := hA.cell 1
    have MEAS := hid hA
    have g0 := hg.cell 0
    have g1 := hg.cell 1
    simp only [List.getElem?_toArray, List.getElem?_cons_zero, List.getElem?_cons_succ] at a0 a1 g0 g1
    have Hi := hid hi; have HLb := hid hL; have HAb := hid hA; have Hg := hid hg; have Hm0 := hid hm0; have HM := hid hm; have H2 := hid h2
    clear hi hL hA hg hm0 hm h2
    have hmx := hid (show m + 1 < maxLen by have := Hm0.out; unfold maxLen; omega)
    by_cases hodd : i % 2 = 1
    · have hd : ((i : Int) % 2 == 1) = true := by rw [beq_iff_eq]; omega
      obtain ⟨j, hj⟩ : ∃ j, i / 2 = j := ⟨_, rfl⟩
      have ej : (i : Int) / 2 = (j : Int) := by omega
      obtain ⟨i1, hi1⟩ : ∃ i1, i - 1 = i1 := ⟨_, rfl⟩
      have ei : (i : Int) - 1 = (i1 : Int) := by omega
      have hi14 : i1 ≤ 4096 := by omega
      have hj4 : j ≤ 4096 := by omega
      have hji : j < i := by omega
      obtain ⟨lv1, hlv1⟩ : ∃ lv1, lv + 1 = lv1 := ⟨_, rfl⟩
      have el : (lv : Int) + 1 = (lv1 : Int) := by omega
      have hl13 : lv1 ≤ 13 := by omega
      have Hj := hid hj; have Hlv1 := hid hlv1
      have Hi2 := hid (show (i + 1) * 2 ^ lv = l.length + 1 from by rw [Hn.out]; exact Hi.out)
      have hupp := hid (addG_up l x lv i Hi2.out hodd)
      have hleft := hid (addZ_left l x lv i Hi2.out hodd)
      have Hsuc := hid (addZ_succ l x lv i Hi2.out hodd)
      rw [ei] at hleft
      rw [hlv1, hj] at hupp Hsuc
      have hY := rootL_len _ (seg (l ++ [x]) (i * 2 ^ lv) ((i + 1) * 2 ^ lv)) (Nat.le_refl _) (seg_32 H32.out _ _)
      have hZ := rootL_len _ (seg l ((i - 1) * 2 ^ lv) (i * 2 ^ lv)) (Nat.le_refl _) (seg_32 Hr32.out _ _)
      have hN := rootL_len _ (seg (l ++ [x]) (j * 2 ^ lv1) ((j + 1) * 2 ^ lv1)) (Nat.le_refl _) (seg_32 H32.out _ _)
      generalize rootL (seg (l ++ [x]) (i * 2 ^ lv) ((i + 1) * 2 ^ lv)) = Y at *
      generalize rootL (seg l ((i - 1) * 2 ^ lv) (i * 2 ^ lv)) = Z at *
      obtain ⟨N, hNe⟩ : ∃ N, rootL (seg (l ++ [x]) (j * 2 ^ lv1) ((j + 1) * 2 ^ lv1)) = N := ⟨_, rfl⟩
      rw [hNe] at hN hupp Hsuc
      have HNe := hid hNe
      clear hj hi1 hlv1 hodd hNe
      have SY := hid (show (Tryd.prog.info? 29).map (·.size) = some Y.length by rw [hY]; exact Tryd.sizeHash)
      have SN := hid (show (Tryd.prog.info? 29).map (·.size) = some (hc N).size by rw [hc_size, hN]; exact Tryd.sizeHash)
      have SNY := hid (show (hc N).size = (hc Y).size by rw [hc_size, hc_size, hN, hY])
      have ND := hid (fun q : Later wr => node_any Z Y (lat q) hZ hY ((HGt.out _ H2.out).later (lat_below q)))
      rw [hupp.out.2] at ND
      have hbr := hid HM.out.lt
      have Yc := hid (fun q : Later wr => show ∀ j z, (Y.map bcell)[j]? = some z → (lat q).cell? ((⟨L, 0, none⟩ : Addr).add j) = some z from fun j z hz => (HLb.out.later (lat_below q)).cells j z (by rw [hc_toList]; exact hz))
      clear hY hZ hN
      go_wp2_with fail
      refine wp_region_later_tail 13 (by kernel_rfl) (by kernel_rfl) ?_
      simp only [List.take_succ_cons, List.take_zero, List.drop_succ_cons, List.drop_zero]
      repeat (first
        | (refine wpQuiet_load_one rfl 46 _ rfl ⟨g, 0, none⟩ rfl (.map (some b)) _ (by rintro _ ⟨q, rfl⟩; exact (Hg.out.later (lat_below q)).cell 0) Tryd.underlying46 rfl ?_; simp only [Act.put, List.setIfInBounds_toArray, List.set_cons_succ, List.set_cons_zero])
        | (refine wpQuiet_load_one rfl 3 _ rfl ⟨A, 0, none⟩ rfl (.int .i64 (lv : Int)) _ (by rintro _ ⟨q, rfl⟩; exact (HAb.out.later (lat_below q)).cell 0) Tryd.underlying3 rfl ?_; simp only [Act.put, List.setIfInBounds_toArray, List.set_cons_succ, List.set_cons_zero])
        | (refine wpQuiet_load_one rfl 3 _ rfl ⟨A, 1, none⟩ rfl (.int .i64 (i : Int)) _ (by rintro _ ⟨q, rfl⟩; exact (HAb.out.later (lat_below q)).cell 1) Tryd.underlying3 rfl ?_; simp only [Act.put, List.setIfInBounds_toArray, List.set_cons_succ, List.set_cons_zero])
        | (refine wpQuiet_tile_look rfl _ _ _ rfl rfl rfl (by rintro _ ⟨q, rfl⟩; exact HM.out.later ((lat_below q).block b hbr.out)) (lv : Int) (i1 : Int) rfl (by unfold inI; omega) (by unfold inI; omega) _ hleft.out ?_; simp only [Act.put, List.setIfInBounds_toArray, List.set_cons_succ, List.set_cons_zero])
        | (refine wpQuiet_load_hcG rfl 29 _ rfl ⟨L, 0, none⟩ rfl Y _ (by rintro _ ⟨q, rfl⟩; exact Yc.out q) Tryd.underlying29 rfl SY.out ?_; simp only [Act.put, List.setIfInBounds_toArray, List.set_cons_succ, List.set_cons_zero])
        | go_big_quiet_step ((first | (go_at_call 40; with_reducible exact calls_later (ND.out _)))))
      refine wpQuiet_nil ?_
      rintro _ ⟨q3, rfl⟩
      have hb3 := lat_below q3
      generalize lat q3 = w3 at *
      have HL3 := hid (HLb.out.later hb3)
      have HA3 := hid (HAb.out.later hb3)
      have Hg3 := hid (Hg.out.later hb3)
      have HM3 := hid (HM.out.later (hb3.block b hbr.out))
      have H23 := hid (H2.out.trans (Two.of hb3))
      clear HLb HAb Hg HM H2 hb3 a0 a1 g0 g1 hbr ND Yc hleft
      have HL4 := hid (HL3.out.setRow (cs' := hc N))
      have HA4 := hid (HA3.out.setRow_ne (cs' := hc N) nLA.symm)
      have a0 := HA4.out.cell 0
      have a1 := HA4.out.cell 1
      simp only [List.getElem?_toArray, List.getElem?_cons_zero, List.getElem?_cons_succ] at a0 a1
      have hone : ∀ v ∈ (#[Value.int .i64 (lv1 : Int), .int .i64 (j : Int)] : Array Value).toList, v.oneCell' = true := by
        intro v hv
        rcases List.mem_cons.1 hv with rfl | hv
        · rfl
        · rw [List.mem_singleton.1 hv]; rfl
      have Hone := hid hone
      clear hone
      go_wp2_with (first
        | ((with_reducible show wpList _ _ _ ({ dst := _, op := Op.store 29 _ _, type := _, pos := _, after := _, guard := _ } :: _) _ _); refine wpList_store_blk rfl 29 _ _ rfl L rfl (hc N) rfl _ _ HL3.out SNY.out SN.out (hc_row_one _) ?_)
        | ((with_reducible show wpList _ _ _ ({ dst := _, op := Op.store 23 _ _, type := _, pos := _, after := _, guard := _ } :: _) _ _); refine wpList_store_blk rfl 23 _ _ rfl A rfl #[.int .i64 (lv1 : Int), .int .i64 (j : Int)] rfl _ _ HA4.out rfl HS23.out Hone.out ?_))
      have HL5 := hid (HL4.out.setRow_ne (cs' := #[.int .i64 (lv1 : Int), .int .i64 (j : Int)]) nLA)
      have HA5 := hid (HA4.out.setRow (cs' := #[.int .i64 (lv1 : Int), .int .i64 (j : Int)]))
      have Hg5 := hid ((Hg3.out.setRow_ne (cs' := hc N) nLg.symm).setRow_ne (cs' := #[.int .i64 (lv1 : Int), .int .i64 (j : Int)]) nAg.symm)
      have HM5 := hid (HM3.out.later ((setRow_ne (w := w3.setRow L (hc N)) (cs := #[.int .i64 (lv1 : Int), .int .i64 (j : Int)]) (k := b) nAb.symm).trans (setRow_ne (w := w3) (cs := hc N) (k := b) nLb.symm)))
      have H25 := hid ((H23.out.setRow (r := L) (by have := HL.out; omega) (hc N)).setRow (r := A) (by have := HA.out; omega) #[.int .i64 (lv1 : Int), .int .i64 (j : Int)])
      clear a0 a1 HL4 HA4 HL3 HA3 Hg3 HM3 H23 Hone
      generalize (w3.setRow L (hc N)).setRow A #[.int .i64 (lv1 : Int), .int .i64 (j : Int)] = w5 at *
      refine wp_region_tail 6 (by kernel_rfl) (by kernel_rfl) ?_
      intro w6 he6 hb6
      simp only [List.take_succ_cons, List.take_zero, List.drop_succ_cons, List.drop_zero]
      have Hg6 := hid (Hg5.out.heap (w' := w6) he6)
      have g0 := Hg6.out.cell 0
      simp only [List.getElem?_toArray, List.getElem?_cons_zero, List.getElem?_cons_succ] at g0
      have HL6 := hid (HL5.out.heap (w' := w6) he6)
      have HA6 := hid (HA5.out.heap (w' := w6) he6)
      have HM6 := hid (HM5.out.later (w' := w6) (by rw [he6]))
      have H26 := hid (H25.out.trans (Two.of hb6))
      clear he6 hb6 HL5 HA5 Hg5 HM5 H25
      repeat (first
        | ((with_reducible show wpStill _ _ _ _ ({ dst := _, op := Op.load 23 _, type := _, pos := _, after := _, guard := _ } :: _) _); refine wpStill_load_blk rfl 23 _ rfl A rfl 23 _ _ HA6.out Tryd.underlying23 rfl HS23.out ?_)
        | ((with_reducible show wpStill _ _ _ _ ({ dst := _, op := Op.load 29 _, type := _, pos := _, after := _, guard := _ } :: _) _); refine wpStill_load_blk rfl 29 _ rfl L rfl 29 _ _ HL6.out Tryd.underlying29 rfl SN.out ?_)
        | still_step)
      refine wpStill_nil ?_
      go_wp2_with (at_mapUpdate; refine wpList_tile_put rfl _ _ _ _ rfl rfl rfl HM6.out (by have := hmx.out; omega) (lv1 : Int) (j : Int) rfl (by unfold inI; omega) (by unfold inI; omega) N rfl ?_; intro w7 hm7 hg7)
      go_frame
      have H7 : Two g b w6 w7 := Two.ofG hg7
      go_roundw
      case rel =>
        refine ⟨lv1, j, by rw [← Hn.out]; exact hupp.out.1, ?_, H7.blk HA6.out nAg nAb, (hg7.block g Hg6.out.lt (fun e => by injection e with e; exact hne e.symm)).trans Hg6.out, ⟨m + 1, by have := Hm0.out; have := Hlv1.out; omega, hm7.congr fun a c _ _ => ?_⟩, H26.out.trans H7⟩
        · rw [HNe.out]; exact H7.blk HL6.out nLg nLb
        · exact Hsuc.out a c
      case measure =>
        have e1 := cellN_of ((H7.blk HA6.out nAg nAb).cell 1)
        have e2 := cellN_of (MEAS.out.cell 1)
        rw [e1, e2]
        omega
    · have hd : ((i : Int) % 2 == 1) = false := by rw [beq_eq_false_iff_ne]; omega
      have f1 := Hg.out.free 1
      go_wp2_with fail
      go_ret
      have hB : Two g b w (wr.setCell ⟨g, 1, none⟩ (.int .i64 ((n : Int) + 1))) := H2.out.trans (Two.setCell wr 1 _)
      have hlen : (l ++ [x]).length = n + 1 := by rw [List.length_append, Hn.out]; rfl
      refine ⟨rfl, ⟨?_, ⟨m, ?_, ?_⟩, H32.out, by omega⟩, hB⟩
      · have := Hg.out.setCell 1 (.int .i64 ((n : Int) + 1))
        rw [hlen]
        simpa using this
      · have := Hm0.out; omega
      · refine (HM.out.congr fun a c _ _ => addZ_end l x lv i (by rw [Hn.out]; exact Hi.out) (by omega) a c).later ?_
        exact RowKit.Below.heap_setCell _ _ _ _ hne
end Go.Proofs.YtbpjlancjdbehaaDoor
/- (t *Tiles) root: the root of a segment of the leaves, by the full trees -/
namespace Go.Proofs.YtbpjlancjdbehaaDoor
open Go.RowKit Go.Spec
theorem pow_mono {i j : Nat} (h : i ≤ j) : 2 ^ i ≤ 2 ^ j := Nat.pow_le_pow_right (by omega) h
/-- the least power of two that is not less -/
theorem least_pow (n : Nat) (h : 1 ≤ n) : ∃ K, n ≤ 2 ^ K ∧ ∀ j, j < K → 2 ^ j < n := by
  by_cases h1 : n = 1
  · subst h1; exact ⟨0, by simp, fun j hj => by omega⟩
  · obtain ⟨J, _, h2, h3⟩ := split_pow n (by omega)
    refine ⟨J + 1, by rw [Nat.pow_succ]; omega, fun j hj => ?_⟩
    have := pow_mono (show j ≤ J by omega)
    omega
def TRootAt (g b : Nat) (l : List (List UInt8)) (n : Nat) : Prop := ∀ (from_ to_ : Nat) (w : World), to_ - from_ ≤ n → from_ ≤ to_ → to_ ≤ l.length → lined from_ to_ → TilesAt w g b l → ShaG w →
    Calls Tryd.prog 44 #[.pointer (some ⟨g, 0, none⟩), .int .i64 (from_ : Int), .int .i64 (to_ : Int)] w fun e w' => e = .returned (hv (rootL (seg l from_ to_))) ∧ Below w.heap.size w w'
set_option maxHeartbeats 2000000 in
theorem troot_zero (g b : Nat) (l : List (List UInt8)) (from_ : Nat) (w : World) (hl : from_ ≤ 4096) (hG : ShaG w) :
    Calls Tryd.prog 44 #[.pointer (some ⟨g, 0, none⟩), .int .i64 (from_ : Int), .int .i64 (from_ : Int)] w fun e w' => e = .returned (hv (rootL (seg l from_ from_))) ∧ Below w.heap.size w w' := by
  have hs : seg l from_ from_ = [] := by
    unfold seg; exact List.drop_eq_nil_of_le (by rw [List.length_take]; omega)
  rw [hs]
  have hS := rootL_len _ [] (Nat.le_refl _) (by simp)
  have hw1 : Below w.heap.size w (w.alloc (.cells (hc zero32) 29)) := (Below.refl _ w).alloc (Nat.le_refl _) _
  have HG := hid (hG.later hw1)
  have HR := hid (fun w0 h0 => root_any [] (.slice none 0 0) w0 (by simp) h0 (slNil w0))
  have hZ : Blk (w.alloc (.cells (hc zero32) 29)) w.heap.size (hc zero32) 29 := Blk.new _ _ _
  generalize rootL [] = S at *
  have Hs := hid (show (Tryd.prog.info? 29).map (·.size) = some (hc S).size by rw [hc_size, hS]; exact Tryd.sizeHash)
  have Hz := hid (show (hc S).size = (hc zero32).size by rw [hc_size, hS]; rfl)
  have d0 : ((from_ : Int) - (from_ : Int)) = 0 := by omega
  clear hG hS hs
  go_enter Tryd.func44, Tryd.ntmps44
  go_wp2_with (first
    | (go_at_call 25; refine (HR.out _ HG.out).mono ?_; rintro e w1 ⟨rfl, hb1⟩)
    | ((with_reducible show wpList _ _ _ ({ dst := _, op := Op.store _ _ _, type := _, pos := _, after := _, guard := _ } :: _) _ _); refine wpList_store_blk rfl 29 _ _ rfl w.heap.size rfl (hc S) rfl _ _ (hZ.later hb1) Hz.out Hs.out (hc_row_one _) ?_))
  refine bodyPost_ret (results_cell_row rfl _ _ w.heap.size 29 _ (0, 0) _ rfl ((hZ.later hb1).setRow) Tryd.underlying29 rfl Hs.out) rfl ⟨rfl, ?_⟩
  exact (bth hw1 hb1).setRow (by omega) _
set_option maxHeartbeats 4000000 in
theorem troot_some (g b : Nat) (l : List (List UInt8)) (N : Nat) (ih : TRootAt g b l N) (from_ to_ : Nat) (w : World) (hN : to_ - from_ ≤ N + 1) (h0 : from_ < to_) (hto : to_ ≤ l.length) (hal : lined from_ to_) (hT : TilesAt w g b l) (hG : ShaG w) :
    Calls Tryd.prog 44 #[.pointer (some ⟨g, 0, none⟩), .int .i64 (from_ : Int), .int .i64 (to_ : Int)] w fun e w' => e = .returned (hv (rootL (seg l from_ to_))) ∧ Below w.heap.size w w' := by
  obtain ⟨K, hK1, hK2⟩ := least_pow (to_ - from_) (by omega)
  have hl4 := hT.len
  have hK12 : K ≤ 12 := by
    rcases Nat.lt_or_ge 12 K with h | h
    · have := hK2 12 h
      have h4 : (2 : Nat) ^ 12 = 4096 := rfl
      omega
    · exact h
  have hS := rootL_len _ (seg l from_ to_) (Nat.le_refl _) (seg_32 hT.r32 _ _)
  have hw1 : Below w.heap.size w (w.alloc (.cells (hc zero32) 29)) := (Below.refl _ w).alloc (Nat.le_refl _) _
  have HG := hid (hG.later hw1)
  have HT := hid (hT.later hw1)
  have hZ : Blk (w.alloc (.cells (hc zero32) 29)) w.heap.size (hc zero32) 29 := Blk.new _ _ _
  have Hs := hid (show (Tryd.prog.info? 29).map (·.size) = some (hc (rootL (seg l from_ to_))).size by rw [hc_size, hS]; exact Tryd.sizeHash)
  have Hz := hid (show (hc (rootL (seg l from_ to_))).size = (hc zero32).size by rw [hc_size, hS]; rfl)
  obtain ⟨n, hn⟩ : ∃ n, to_ - from_ = n := ⟨_, rfl⟩
  have en : (to_ : Int) - (from_ : Int) = (n : Int) := by omega
  have dn : ((n : Int) == 0) = false := beq_eq_false_iff_ne.mpr (by omega)
  have hn1 : 1 ≤ n := by omega
  have hn4 : n ≤ 4096 := by omega
  have hr := rootL_len
  have Hn := hid hn
  rw [hn] at hK1 hK2 hN
  have HK1 := hid hK1; have HK2 := hid hK2; have Hal := hid hal; have Hto := hid hto; have HN := hid hN
  have H0 := hid h0; have Hr32 := hid hT.r32; have Hl4 := hid hl4
  clear hr hn hK1 hK2 hal hto hN hT hG h0 hS hl4
  go_enter Tryd.func44, Tryd.ntmps44
  go_wp2_with fail
  go_loop [8, 9] (fun lv sz => ∃ k : Nat, k ≤ K ∧ lv = .int .i64 (k : Int) ∧ sz = .int .i64 ((2 ^ k : Nat) : Int)) (fun lv _ => K - (intOf lv).toNat)
  case atStart => exact ⟨0, by omega, rfl, by simp⟩
  case round =>
    obtain ⟨k, hk, rfl, rfl⟩ := hrel
    have hpos : 0 < 2 ^ k := Nat.pow_pos (by omega)
    by_cases hlt : k < K
    · have hp := HK2.out k hlt
      have Hp2 := hid (show 2 ^ (k + 1) = 2 * 2 ^ k by rw [Nat.pow_succ]; omega)
      generalize 2 ^ k = p at *
      have hd : decide (p < n) = true := by simpa using hp
      go_wp2_with fail
      go_round
      case rel => exact ⟨k + 1, by omega, by go_num, by rw [Hp2.out]; go_num⟩
      case measure => simp [intOf]; omega
    · obtain rfl : k = K := by omega
      have hge := HK1.out
      have hdd := lined_dvd Hal.out (k := k) (by rw [Hn.out]; exact hge) (by rw [Hn.out]; exact HK2.out)
      have hd : decide (2 ^ k < n) = false := by simp; omega
      by_cases heq : 2 ^ k = n
      · have hfull := seg_full l from_ k hdd (by have := Hn.out; have := Hto.out; omega)
        have hto2 : from_ + 2 ^ k = to_ := by have := Hn.out; have := H0.out; omega
        rw [hto2] at hfull
        obtain ⟨q, hq⟩ : ∃ q, from_ / 2 ^ k = q := ⟨_, rfl⟩
        have hqe : Int.tdiv (from_ : Int) ((2 ^ k : Nat) : Int) = (q : Int) := by rw [← hq, Int.tdiv_eq_ediv_of_nonneg (by omega)]; rfl
        rw [hq] at hfull
        have hz := tileZ_nat l k q
        rw [hfull] at hz
        have hq4 : q ≤ 4096 := by
          have := Nat.div_le_self from_ (2 ^ k)
          have := Hl4.out; have := Hto.out; have := H0.out; omega
        generalize 2 ^ k = p at *
        have hd2 : ((p : Int) == (n : Int)) = true := by rw [beq_iff_eq]; omega
        have hpn : ¬ p = 0 := by omega
        have hwq : IntKind.i64.wrap (q : Int) = (q : Int) := IntWalk.i64_in _ (by omega)
        have Hq := hid hq; have Hz2 := hid hz
        clear hfull hdd hge hz hto2 heq hq
        go_wp2_with fail
        refine wp_region_tail 10 (by kernel_rfl) (by kernel_rfl) ?_
        intro w2 he2 hb2
        simp only [List.take_succ_cons, List.take_zero, List.drop_succ_cons, List.drop_zero]
        have HT2 := hid (HT.out.kept (w' := w2) (by rw [he2]; rfl) (by rw [he2]; rfl))
        have c0 := HT2.out.c0
        obtain ⟨m, _, hm⟩ := HT2.out.map
        have HM := hid hm
        have hZ2 := hid (hZ.heap (w' := w2) he2)
        have HB2 := hid (bth hw1 hb2)
        clear hm he2 hb2 HT hZ
        repeat (first
          | ((with_reducible show wpStill _ _ _ _ ({ dst := _, op := Op.lookup _ _ _ _, type := _, pos := _, after := _, guard := _ } :: _) _); refine wpStill_tile_look rfl _ _ _ rfl rfl rfl HM.out (k : Int) (q : Int) rfl (by unfold inI; omega) (by unfold inI; omega) _ Hz2.out ?_)
          | still_step)
        refine wpStill_nil ?_
        go_wp2_with ((with_reducible show wpList _ _ _ ({ dst := _, op := Op.store _ _ _, type := _, pos := _, after := _, guard := _ } :: _) _ _); refine wpList_store_blk rfl 29 _ _ rfl w.heap.size rfl (hc (rootL (seg l from_ to_))) rfl _ _ hZ2.out Hz.out Hs.out (hc_row_one _) ?_)
        refine bodyPost_ret (results_cell_row rfl _ _ w.heap.size 29 _ (0, 0) _ rfl (hZ2.out.setRow) Tryd.underlying29 rfl Hs.out) rfl ⟨rfl, ?_⟩
        exact HB2.out.setRow (by omega) _
      · obtain ⟨m, rfl⟩ : ∃ m, k = m + 1 := ⟨k - 1, by
          rcases Nat.eq_zero_or_pos k with h | h
          · subst h
            have h1 : (2 : Nat) ^ 0 = 1 := rfl
            omega
          · omega⟩
        have hm1 := HK2.out m (by omega)
        have hp2 : 2 ^ (m + 1) = 2 * 2 ^ m := by rw [Nat.pow_succ]; omega
        have hsp : splitN n = 2 ^ m := splitN_eq m n hm1 (by omega)
        have hsr := seg_root l from_ to_ Hto.out (by have := Hn.out; omega)
        have hls := lined_split Hal.out (by have := Hn.out; omega)
        rw [Hn.out, hsp] at hsr hls
        generalize 2 ^ m = h at *
        generalize 2 ^ (m + 1) = p at *
        obtain ⟨f2, hf2⟩ : ∃ f2, from_ + h = f2 := ⟨_, rfl⟩
        rw [hf2] at hsr hls
        have hlt2 := H0.out
        have hto3 := Hto.out
        have hl44 := Hl4.out
        have hnn := Hn.out
        have hNN := HN.out
        have e1 : (p : Int) / 2 = (h : Int) := by omega
        have e2 : (from_ : Int) + (h : Int) = (f2 : Int) := by omega
        have hd2 : ((p : Int) == (n : Int)) = false := by rw [beq_eq_false_iff_ne]; omega
        have I1 := hid (fun w0 hT0 hG0 => ih from_ f2 w0 (by omega) (by omega) (by omega) hls.1 hT0 hG0)
        have I2 := hid (fun w0 hT0 hG0 => ih f2 to_ w0 (by omega) (by omega) (by omega) hls.2 hT0 hG0)
        have L1 := rootL_len _ (seg l from_ f2) (Nat.le_refl _) (seg_32 Hr32.out _ _)
        have L2 := rootL_len _ (seg l f2 to_) (Nat.le_refl _) (seg_32 Hr32.out _ _)
        rw [hsr] at Hs Hz
        generalize rootL (seg l from_ f2) = A at *
        generalize rootL (seg l f2 to_) = B at *
        have ND := hid (fun w0 h0 => node_any A B w0 L1 L2 h0)
        have hpp : p ≤ 8192 := by omega
        have hf24 : f2 ≤ 4096 := by omega
        have hto4 : to_ ≤ 4096 := by omega
        have hwf : wrap64 (f2 : Int) = (f2 : Int) := by unfold wrap64; omega
        have Hsr := hid hsr
        clear hm1 hp2 hsp hsr hls hdd hge hf2 hlt2 hto3 hnn hNN L1 L2 heq ih hlt hk
        show Code.wp _ _ _ _ (w.alloc (.cells (hc zero32) 29))
        generalize hw0 : w.alloc (.cells (hc zero32) 29) = w0 at *
        clear hw0
        go_wp2_with (first
          | (go_at_call 40; refine (ND.out _ (HG.out.later HB2.out)).mono ?_; rintro e w4 ⟨rfl, hb4⟩)
          | (go_at_call 44; first
              | ((with_reducible refine (I1.out _ HT.out HG.out).mono ?_); rintro e w2 ⟨rfl, hb2⟩; have HB1 := hid hb2; clear hb2)
              | ((with_reducible refine (I2.out _ (HT.out.later HB1.out) (HG.out.later HB1.out)).mono ?_); rintro e w3 ⟨rfl, hb3⟩; have HB2 := hid (bth HB1.out hb3); clear hb3))
          | ((with_reducible show wpList _ _ _ ({ dst := _, op := Op.store _ _ _, type := _, pos := _, after := _, guard := _ } :: _) _ _); refine wpList_store_blk rfl 29 _ _ rfl w.heap.size rfl (hc (nodeL A B)) rfl _ _ ((hZ.later HB2.out).later hb4) Hz.out Hs.out (hc_row_one _) ?_))
        refine bodyPost_ret (results_cell_row rfl _ _ w.heap.size 29 _ (0, 0) _ rfl (((hZ.later HB2.out).later hb4).setRow) Tryd.underlying29 rfl Hs.out) rfl ⟨by rw [Hsr.out], ?_⟩
        exact (bth hw1 (bth HB2.out hb4)).setRow (by omega) _
theorem troot_at (g b : Nat) (l : List (List UInt8)) : ∀ n, TRootAt g b l n
  | 0 => fun from_ to_ w hn h1 h2 _ hT hG => by
    obtain rfl : from_ = to_ := by omega
    exact troot_zero g b l from_ w (by have := hT.len; omega) hG
  | n + 1 => fun from_ to_ w hn h1 h2 hal hT hG => by
    by_cases h : from_ = to_
    · subst h
      exact troot_zero g b l from_ w (by have := hT.len; omega) hG
    · exact troot_some g b l n (troot_at g b l n) from_ to_ w hn (by omega) h2 hal hT hG
theorem troot_any (g b : Nat) (l : List (List UInt8)) (from_ to_ : Nat) (w : World) (h1 : from_ ≤ to_) (h2 : to_ ≤ l.length) (hal : lined from_ to_) (hT : TilesAt w g b l) (hG : ShaG w) :
    Calls Tryd.prog 44 #[.pointer (some ⟨g, 0, none⟩), .int .i64 (from_ : Int), .int .i64 (to_ : Int)] w fun e w' => e = .returned (hv (rootL (seg l from_ to_))) ∧ Below w.heap.size w w' :=
  troot_at g b l (to_ - from_) from_ to_ w (Nat.le_refl _) h1 h2 hal hT hG
end Go.Proofs.YtbpjlancjdbehaaDoor
/- tiles.New, Copy, Root; maps.Clone of the tiles' map -/
namespace Go.Spec
open Go.RowKit
variable {P : Program} {ops : Array Oper}
theorem YieldsW.load_one {C : World → Prop} {oi : Oper} {a : Act} (hw : Region.wanted oi (yielded ops a.tmps) = true) (ty : TypeId) (x : Operand) (ho : oi.op = .load ty x) (ad : Addr) (hx : a.eval x = .pointer (some ad)) (v : Value) (d : TypeDesc)
    (hc : ∀ w', C w' → w'.cell? ad = some v) (hu : P.underlying ty = some d) (hd : (match d with | .struct _ | .array _ _ => true | _ => false) = false) : YieldsW P ops C oi v a :=
  .inl ⟨hw, fun w' hw' => by
    have hagg : (isAgg ty).run P w' = .ok false w' := by
      unfold isAgg
      rw [Sem.run_bind, run_underlying hu w']
      cases d <;> simp_all
    have hl : (load ad).run P w' = .ok v w' := by
      show (Sem.load Mode.plain ad Sem.pure).run P w' = _
      unfold Sem.run
      simp [hc w' hw', Sem.run, go_sem]
    unfold execOp
    simp only [ho, hx, Instr.loadAt, Instr.sureAddr, Sem.run_bind, Sem.run_pure, Result.andThen_ok, loadVar, hagg, Bool.false_eq_true, if_false, hl]⟩
end Go.Spec
namespace Go.Proofs.YtbpjlancjdbehaaDoor
open Go.RowKit Go.Spec
set_option maxHeartbeats 1000000 in
theorem tclone_any (b n : Nat) (f : Int → Int → Option (List UInt8)) (w : World) (h : TMap w b n f) :
    Calls Tryd.prog 48 #[.map (some b)] w fun e w' => e = .returned (.map (some w.heap.size)) ∧ TMap w' w.heap.size n f ∧ Below w.heap.size w w' := by
  obtain ⟨D, ⟨es, clock, hb, F, hs, hD⟩, h2⟩ := h
  have hq := fun w => run_eql_map_nil_sl (P := Tryd.prog) w 46 _ _ (some b) Tryd.underlying46
  have hf : Tryd.prog.funcs[70]? = some Tryd.f70 := by kernel_rfl
  have HR := hid (And.intro hD (And.intro hs h2))
  clear hD hs h2
  go_enter Tryd.func48, Tryd.ntmps48
  go_wp2
  rw [run_callFunc_extern hf (by kernel_rfl) (by kernel_rfl) (by kernel_rfl) (e := Extern.MapsClone.clone) (by kernel_rfl), run_maps_clone_sl w 46 hb]
  simp only [Result.andThen]
  rw [Oper.upon_value]
  go_wp2
  rw [run_typeAssert_map_sl _ 46 _ _ _ _ Tryd.underlying46]
  simp only [Result.andThen]
  rw [Oper.upon_value]
  go_wp2
  go_ret
  exact ⟨rfl, ⟨D, ⟨es, clock, (MapKept.heap_alloc w _).1, F, HR.out.2.1, HR.out.1⟩, HR.out.2.2⟩, (Below.refl _ w).alloc (Nat.le_refl _) _⟩
set_option maxHeartbeats 1000000 in
theorem tnew_any (w : World) :
    Calls Tryd.prog 21 #[] w fun e w' => e = .returned (.pointer (some ⟨w.heap.size + 1, 0, none⟩)) ∧ TilesAt w' (w.heap.size + 1) w.heap.size [] ∧ Below w.heap.size w w' := by
  have hmm := @run_makeMap Tryd.prog
  have HB : Below w.heap.size w ((w.alloc (.map #[] 0)).alloc (.cells #[.map (some w.heap.size), .int .i64 0] 48)) := ((Below.refl _ w).alloc (Nat.le_refl _) _).alloc (by simp) _
  have hM := TMap.made w
  have hT : TilesAt ((w.alloc (.map #[] 0)).alloc (.cells #[.map (some w.heap.size), .int .i64 0] 48)) (w.heap.size + 1) w.heap.size [] := by
    refine ⟨Blk.new' _ _ _ (by simp), ⟨0, Nat.le_refl _, ?_⟩, by simp, by simp⟩
    refine (hM.later (((Below.refl (w.heap.size + 1) _).alloc (by simp) _).block _ (by omega))).congr fun i j _ _ => ?_
    unfold tileZ tileN
    split
    · rw [if_neg (by
        have : 0 < (j.toNat + 1) * 2 ^ i.toNat := Nat.mul_pos (by omega) (Nat.pow_pos (by omega))
        simp only [List.length_nil]; omega)]
    · rfl
  have HT := hid hT; have HBb := hid HB
  clear hT HB hM
  go_enter Tryd.func21, Tryd.ntmps21
  go_wp2
  go_ret
  exact ⟨rfl, HT.out, HBb.out⟩
/-- the root of the first leaves -/
def trootX (l : List (List UInt8)) (n : Int) : List UInt8 := if 0 ≤ n ∧ n ≤ l.length then rootL (l.take n.toNat) else zero32
theorem trootX_32 {l : List (List UInt8)} (h : ∀ x ∈ l, x.length = 32) (n : Int) : (trootX l n).length = 32 := by
  unfold trootX
  split
  · exact rootL_len _ _ (Nat.le_refl _) (fun x hx => h x (List.mem_of_mem_take hx))
  · rfl
set_option maxHeartbeats 2000000 in
theorem troott_any (g b : Nat) (l : List (List UInt8)) (n : Int) (w : World) (h : TilesAt w g b l) (hG : ShaG w) :
    Calls Tryd.prog 14 #[.pointer (some ⟨g, 0, none⟩), .int .i64 n] w fun e w' => e = .returned (.tuple #[hv (trootX l n), .int .i64 (withE l n)]) ∧ Below w.heap.size w w' := by
  have h32 := trootX_32 h.r32 n
  have hw1 : Below w.heap.size w (w.alloc (.cells (hc zero32) 29)) := (Below.refl _ w).alloc (Nat.le_refl _) _
  have hT := h.later hw1
  have HW := hid (within_any g b l n _ hT)
  have HG := hid (hG.later hw1)
  have hZ : Blk (w.alloc (.cells (hc zero32) 29)) w.heap.size (hc zero32) 29 := Blk.new _ _ _
  have Hs := hid (show (Tryd.prog.info? 29).map (·.size) = some (hc (trootX l n)).size by rw [hc_size, h32]; exact Tryd.sizeHash)
  have Hz := hid (show (hc (trootX l n)).size = (hc zero32).size by rw [hc_size, h32]; rfl)
  have HT := hid hT
  clear h h32 hG hT
  by_cases hn : 0 ≤ n ∧ n ≤ l.length
  · obtain ⟨m, rfl⟩ : ∃ m : Nat, n = m := ⟨n.toNat, by omega⟩
    have hE : withE l (m : Int) = 0 := by unfold withE; rw [if_pos hn]
    have hX : trootX l (m : Int) = rootL (seg l 0 m) := by unfold trootX; rw [if_pos hn]; rfl
    rw [hX] at Hs Hz
    rw [hE] at HW
    rw [hE, hX]
    have HR := hid (troot_any g b l 0 m _ (by omega) (by omega) (lined_zero m) HT.out HG.out)
    generalize rootL (seg l 0 m) = R at *
    clear hX hE hn HT
    go_enter Tryd.func14, Tryd.ntmps14
    go_wp2_with (first
      | (go_at_call 43; refine HW.out.mono ?_; rintro e w1 ⟨rfl, rfl⟩)
      | (go_at_call 44; refine HR.out.mono ?_; rintro e w2 ⟨rfl, hb2⟩)
      | ((with_reducible show wpList _ _ _ ({ dst := _, op := Op.store _ _ _, type := _, pos := _, after := _, guard := _ } :: _) _ _); refine wpList_store_blk rfl 29 _ _ rfl w.heap.size rfl (hc R) rfl _ _ (hZ.later hb2) Hz.out Hs.out (hc_row_one _) ?_))
    refine bodyPost_ret (results_cell2 rfl _ w.heap.size 29 _ (0, 0) _ rfl ((hZ.later hb2).setRow) Tryd.underlying29 rfl Hs.out) rfl ⟨rfl, ?_⟩
    exact (bth hw1 hb2).setRow (by omega) _
  · have hE : withE l n = 82 := by unfold withE; rw [if_neg hn]
    have hX : trootX l n = zero32 := by unfold trootX; rw [if_neg hn]
    rw [hX] at Hs Hz
    rw [hE] at HW
    rw [hE, hX]
    clear hX hE hn HT HG
    go_enter Tryd.func14, Tryd.ntmps14
    go_wp2_with (first
      | (go_at_call 43; refine HW.out.mono ?_; rintro e w1 ⟨rfl, rfl⟩)
      | ((with_reducible show wpList _ _ _ ({ dst := _, op := Op.build _ _, type := _, pos := _, after := _, guard := _ } :: _) _ _); refine wpList_build0 rfl 29 rfl (hv zero32) (Tryd.zeroHash _) ?_)
      | ((with_reducible show wpList _ _ _ ({ dst := _, op := Op.store _ _ _, type := _, pos := _, after := _, guard := _ } :: _) _ _); refine wpList_store_blk rfl 29 _ _ rfl w.heap.size rfl (hc zero32) rfl _ _ hZ rfl Hs.out (hc_row_one _) ?_))
    refine bodyPost_ret (results_cell2 rfl _ w.heap.size 29 _ (0, 0) _ rfl (hZ.setRow) Tryd.underlying29 rfl Hs.out) rfl ⟨rfl, ?_⟩
    exact hw1.setRow (by omega) _
set_option maxHeartbeats 2000000 in
theorem tcopy_any (g b : Nat) (l : List (List UInt8)) (w : World) (h : TilesAt w g b l) :
    Calls Tryd.prog 24 #[.pointer (some ⟨g, 0, none⟩)] w fun e w' => (∃ g' b', e = .returned (.pointer (some ⟨g', 0, none⟩)) ∧ TilesAt w' g' b' l ∧ w.heap.size ≤ g' ∧ w.heap.size ≤ b') ∧ Below w.heap.size w w' := by
  have HN := hid (none_any g b l w h)
  have HT := hid h
  obtain ⟨m, hm0, hm⟩ := h.map
  have Hm0 := hid hm0; have HM := hid hm
  have Hbk := hid h.blk
  clear h hm0 hm
  go_enter Tryd.func24, Tryd.ntmps24
  go_wp2_with (go_at_call 41; refine HN.out.mono ?_; rintro e w1 ⟨rfl, rfl⟩)
  refine wp_region_anyC (by kernel_rfl) ?_
  intro w5 he5 hb5
  have Hc5 := hid hb5
  clear he5
  show wpAnyC _ _ _ _ _ 12 (Array.replicate 12 false) _ _
  refine wpAnyC_take (i := 0) (v := .pointer (some ⟨g, 0, none⟩)) rfl (by kernel_rfl) (by kernel_rfl) (by kernel_rfl) (fun _ _ _ h => h) (Or.inl ⟨by rfl, ?_⟩) ?_
  · intro w _
    go_simp
    try exact IntWalk.i64_in _ (by omega)
    try omega
  (first | dsimp only [List.getElem_toArray, List.getElem_cons_succ, List.getElem_cons_zero] | dsimp (maxSteps := 10000000) only [List.getElem_toArray, List.getElem_cons_succ, List.getElem_cons_zero] | skip); (first | go_frame | simp (maxSteps := 10000000) only [Act.put, List.setIfInBounds_toArray, List.set_cons_succ, List.set_cons_zero] | skip)
  refine wpAnyC_take (i := 1) (v := .pointer (some ⟨g, 0, none⟩)) rfl (by kernel_rfl) (by kernel_rfl) (by kernel_rfl) (fun _ _ _ h => h) (Or.inl ⟨by rfl, ?_⟩) ?_
  · intro w _
    go_simp
    try exact IntWalk.i64_in _ (by omega)
    try omega
  (first | dsimp only [List.getElem_toArray, List.getElem_cons_succ, List.getElem_cons_zero] | dsimp (maxSteps := 10000000) only [List.getElem_toArray, List.getElem_cons_succ, List.getElem_cons_zero] | skip); (first | go_frame | simp (maxSteps := 10000000) only [Act.put, List.setIfInBounds_toArray, List.set_cons_succ, List.set_cons_zero] | skip)
  refine wpAnyC_take (i := 2) (v := .pointer (some ⟨g, 0, none⟩)) rfl (by kernel_rfl) (by kernel_rfl) (by kernel_rfl) (fun _ _ _ h => h) (Or.inl ⟨by rfl, ?_⟩) ?_
  · intro w _
    go_simp
    try exact IntWalk.i64_in _ (by omega)
    try omega
  (first | dsimp only [List.getElem_toArray, List.getElem_cons_succ, List.getElem_cons_zero] | dsimp (maxSteps := 10000000) only [List.getElem_toArray, List.getElem_cons_succ, List.getElem_cons_zero] | skip); (first | go_frame | simp (maxSteps := 10000000) only [Act.put, List.setIfInBounds_toArray, List.set_cons_succ, List.set_cons_zero] | skip)
  refine wpAnyC_take (i := 3) (v := .map (some b)) rfl (by kernel_rfl) (by kernel_rfl) (by kernel_rfl) (fun _ _ _ h => h) (YieldsW.load_one (by rfl) 46 _ rfl ⟨g, 0, none⟩ rfl _ _ (fun w' hw' => (HT.out.later hw').c0) Tryd.underlying46 rfl) ?_
  (first | dsimp only [List.getElem_toArray, List.getElem_cons_succ, List.getElem_cons_zero] | dsimp (maxSteps := 10000000) only [List.getElem_toArray, List.getElem_cons_succ, List.getElem_cons_zero] | skip); (first | go_frame | simp (maxSteps := 10000000) only [Act.put, List.setIfInBounds_toArray, List.set_cons_succ, List.set_cons_zero] | skip)
  refine wpAnyC_take (i := 5) (v := .pointer (some ⟨g, 0, none⟩)) rfl (by kernel_rfl) (by kernel_rfl) (by kernel_rfl) (fun _ _ _ h => h) (Or.inl ⟨by rfl, ?_⟩) ?_
  · intro w _
    go_simp
    try exact IntWalk.i64_in _ (by omega)
    try omega
  (first | dsimp only [List.getElem_toArray, List.getElem_cons_succ, List.getElem_cons_zero] | dsimp (maxSteps := 10000000) only [List.getElem_toArray, List.getElem_cons_succ, List.getElem_cons_zero] | skip); (first | go_frame | simp (maxSteps := 10000000) only [Act.put, List.setIfInBounds_toArray, List.set_cons_succ, List.set_cons_zero] | skip)
  refine wpAnyC_take (i := 6) (v := .pointer (some ⟨g, 0, none⟩)) rfl (by kernel_rfl) (by kernel_rfl) (by kernel_rfl) (fun _ _ _ h => h) (Or.inl ⟨by rfl, ?_⟩) ?_
  · intro w _
    go_simp
    try exact IntWalk.i64_in _ (by omega)
    try omega
  (first | dsimp only [List.getElem_toArray, List.getElem_cons_succ, List.getElem_cons_zero] | dsimp (maxSteps := 10000000) only [List.getElem_toArray, List.getElem_cons_succ, List.getElem_cons_zero] | skip); (first | go_frame | simp (maxSteps := 10000000) only [Act.put, List.setIfInBounds_toArray, List.set_cons_succ, List.set_cons_zero] | skip)
  refine wpAnyC_take (i := 7) (v := .pointer (some ⟨g, 1, none⟩)) rfl (by kernel_rfl) (by kernel_rfl) (by kernel_rfl) (fun _ _ _ h => h) (Or.inl ⟨by rfl, ?_⟩) ?_
  · intro w _
    go_simp
    try exact IntWalk.i64_in _ (by omega)
    try omega
  (first | dsimp only [List.getElem_toArray, List.getElem_cons_succ, List.getElem_cons_zero] | dsimp (maxSteps := 10000000) only [List.getElem_toArray, List.getElem_cons_succ, List.getElem_cons_zero] | skip); (first | go_frame | simp (maxSteps := 10000000) only [Act.put, List.setIfInBounds_toArray, List.set_cons_succ, List.set_cons_zero] | skip)
  refine wpAnyC_take (i := 8) (v := .int .i64 (l.length : Int)) rfl (by kernel_rfl) (by kernel_rfl) (by kernel_rfl) (fun _ _ _ h => h) (YieldsW.load_one (by rfl) 3 _ rfl ⟨g, 1, none⟩ rfl _ _ (fun w' hw' => (HT.out.later hw').c1) Tryd.underlying3 rfl) ?_
  (first | dsimp only [List.getElem_toArray, List.getElem_cons_succ, List.getElem_cons_zero] | dsimp (maxSteps := 10000000) only [List.getElem_toArray, List.getElem_cons_succ, List.getElem_cons_zero] | skip); (first | go_frame | simp (maxSteps := 10000000) only [Act.put, List.setIfInBounds_toArray, List.set_cons_succ, List.set_cons_zero] | skip)
  refine wpAnyC_forced (i := 4) (by kernel_rfl) rfl (Hc5.out) ?_
  (first | dsimp only [List.getElem_toArray, List.getElem_cons_succ, List.getElem_cons_zero] | dsimp (maxSteps := 10000000) only [List.getElem_toArray, List.getElem_cons_succ, List.getElem_cons_zero] | skip); (first | go_frame | simp (maxSteps := 10000000) only [Act.put, List.setIfInBounds_toArray, List.set_cons_succ, List.set_cons_zero] | skip)
  go_wp2_with (go_at_call 48; refine (tclone_any b m _ _ (HM.out.later (hb5.block b HT.out.lt.2))).mono ?_; rintro e w6 ⟨rfl, hm6, hb6⟩)
  show wpAnyC _ _ _ _ _ _ _ _ _
  have Hc6 := hid (bth Hc5.out hb6)
  refine wpAnyC_forced (i := 9) (by kernel_rfl) rfl (Hc6.out) ?_
  (first | dsimp only [List.getElem_toArray, List.getElem_cons_succ, List.getElem_cons_zero] | dsimp (maxSteps := 10000000) only [List.getElem_toArray, List.getElem_cons_succ, List.getElem_cons_zero] | skip); (first | go_frame | simp (maxSteps := 10000000) only [Act.put, List.setIfInBounds_toArray, List.set_cons_succ, List.set_cons_zero] | skip)
  go_wp2
  show wpAnyC _ _ _ _ _ _ _ _ _
  refine wpAnyC_forced (i := 10) (by kernel_rfl) rfl (Hc6.out) ?_
  (first | dsimp only [List.getElem_toArray, List.getElem_cons_succ, List.getElem_cons_zero] | dsimp (maxSteps := 10000000) only [List.getElem_toArray, List.getElem_cons_succ, List.getElem_cons_zero] | skip); (first | go_frame | simp (maxSteps := 10000000) only [Act.put, List.setIfInBounds_toArray, List.set_cons_succ, List.set_cons_zero] | skip)
  go_wp2
  have hC7 : Below w.heap.size w (w6.alloc (.cells #[.map (some w5.heap.size), .int .i64 (l.length : Int)] 48)) := Hc6.out.alloc Hc6.out.size _
  have hT7 : TilesAt (w6.alloc (.cells #[.map (some w5.heap.size), .int .i64 (l.length : Int)] 48)) w6.heap.size w5.heap.size l :=
    ⟨Blk.new _ _ _, ⟨m, Hm0.out, hm6.later (((Below.refl w6.heap.size w6).alloc (Nat.le_refl _) _).block _ hm6.lt)⟩, HT.out.r32, HT.out.len⟩
  have HC7 := hid hC7; have HT7 := hid hT7
  have hs5 : w.heap.size ≤ w5.heap.size := hb5.size
  have hs6 : w.heap.size ≤ w6.heap.size := Hc6.out.size
  clear hC7 hT7
  show wpAnyC _ _ _ _ _ _ _ _ _
  refine wpAnyC_forced (i := 11) (by kernel_rfl) rfl (HC7.out) ?_
  (first | dsimp only [List.getElem_toArray, List.getElem_cons_succ, List.getElem_cons_zero] | dsimp (maxSteps := 10000000) only [List.getElem_toArray, List.getElem_cons_succ, List.getElem_cons_zero] | skip); (first | go_frame | simp (maxSteps := 10000000) only [Act.put, List.setIfInBounds_toArray, List.set_cons_succ, List.set_cons_zero] | skip)
  go_wp2
  show wpAnyC _ _ _ _ _ _ _ _ _
  refine wpAnyC_done (by kernel_rfl) HC7.out ?_ _
  (first | dsimp only [List.getElem_toArray, List.getElem_cons_succ, List.getElem_cons_zero] | dsimp (maxSteps := 10000000) only [List.getElem_toArray, List.getElem_cons_succ, List.getElem_cons_zero] | skip); (first | go_frame | simp (maxSteps := 10000000) only [Act.put, List.setIfInBounds_toArray, List.set_cons_succ, List.set_cons_zero] | skip)
  go_wp2
  go_ret
  exact ⟨⟨_, _, rfl, HT7.out, hs6, hs5⟩, HC7.out⟩
end Go.Proofs.YtbpjlancjdbehaaDoor
