/- the map of the tiles: keyed by a level and an index, of hashes -/
import Derived.Test.YtbpjlancjdbehaaDoorQBase
import Derived.Test.YtbpjlancjdbehaaDoorQTreeLaw
import Derived.Test.YtbpjlancjdbehaaDoorQZero
import Derived.Maps.OwnSet
import Derived.DeepKeys5
import Derived.Shelf.SlMaps.Clone
set_option maxRecDepth 100000
namespace Go.Proofs.YtbpjlancjdbehaaDoor
open Go.RowKit Go.Spec
/-- a key -/
def kv (a b : Int) : Value := .agg #[.int .i64 a, .int .i64 b]
def kL (a b : Int) : Lit := .string (keyBytes [.int .i64 a, .int .i64 b])
/-- a number of an int's size -/
def inI (a : Int) : Prop := -9223372036854775808 ≤ a ∧ a ≤ 9223372036854775807
theorem inI_wf {a : Int} (h : inI a) : (Lit.int .i64 a).wf = true := WalkArith.wf_i64 h
theorem tile_keyed : Go.Maps.Keyed Tryd.prog 23 :=
  Go.Maps.Keyed.of_law (deep_law_laid (m := 3) (by kernel_rfl) (by decide) (of_decide_eq_true (by kernel_rfl)) (by kernel_rfl) (by kernel_rfl))
theorem tile_key (a b : Int) (ha : inI a) (hb : inI b) : keyOf Tryd.prog 23 (kv a b) = some (kL a b) := by
  have h1 : Tryd.prog.keyType 23 = true := by kernel_rfl
  have h2 : Tryd.prog.types.size = (Tryd.prog.types.size - 1) + 1 := by kernel_rfl
  have hf : (kv a b).formed Tryd.prog 23 = true := by
    have c1 : Tryd.prog.cellsOf 23 = 2 := by kernel_rfl
    unfold kv
    simp [Value.formed, Tryd.underlying23, c1]
  have hk : Tryd.prog.keyLits (Tryd.prog.types.size + 1) 23 [.int .i64 a, .int .i64 b] = some [.int .i64 a, .int .i64 b] := by
    rw [h2]
    have c1 : Tryd.prog.cellsOf 23 = 2 := by kernel_rfl
    have c2 : Tryd.prog.cellsOf 3 = 1 := by kernel_rfl
    generalize Tryd.prog.types.size - 1 = n
    simp [Program.keyLits, Tryd.underlying23, Tryd.underlying3, c1, c2, inI_wf ha, inI_wf hb, List.range_succ]
  unfold keyOf
  rw [Tryd.underlying23]
  simp only [h1, hf, Bool.and_self, if_true]
  rw [show (kv a b).cells.toList = [.int .i64 a, .int .i64 b] from rfl, hk]
  rfl
theorem kv_inj {a b c d : Int} (h : kv a b = kv c d) : a = c ∧ b = d := by
  unfold kv at h
  simpa using h
theorem kL_ne {a b c d : Int} (ha : inI a) (hb : inI b) (hc : inI c) (hd : inI d) (h : ¬ (a = c ∧ b = d)) : kL a b ≠ kL c d := by
  intro e
  refine h (kv_inj (tile_keyed.inj (tile_key a b ha hb) ?_))
  rw [e]; exact tile_key c d hc hd
/-- a hash out of its cells -/
def unbyte : Value → Option UInt8
  | .int .u8 n => if 0 ≤ n ∧ n < 256 then some (UInt8.ofNat n.toNat) else none
  | _ => none
def unhv : Value → Option (List UInt8)
  | .agg cs => cs.toList.mapM unbyte
  | _ => none
theorem unbyte_bcell (b : UInt8) : unbyte (bcell b) = some b := by
  have := b.toNat_lt
  show (if 0 ≤ (b.toNat : Int) ∧ (b.toNat : Int) < 256 then some (UInt8.ofNat (b.toNat : Int).toNat) else none) = some b
  rw [if_pos ⟨by omega, by omega⟩]
  simp
theorem unbyte_inv {v : Value} {b : UInt8} (h : unbyte v = some b) : v = bcell b := by
  unfold unbyte at h
  split at h
  · split at h
    · rename_i n hn
      injection h with h
      rw [← h, ← bcell_mk _ (by omega)]
      congr 1
      omega
    · cases h
  · cases h
theorem unhv_hv (l : List UInt8) : unhv (hv l) = some l := by
  unfold unhv
  show (hc l).toList.mapM unbyte = some l
  rw [hc_toList]
  induction l with
  | nil => rfl
  | cons b l ih => simp [unbyte_bcell, ih]
theorem mapM_inv : ∀ (cs : List Value) (l : List UInt8), cs.mapM unbyte = some l → cs = l.map bcell
  | [], l, h => by
    simp at h; subst h; rfl
  | c :: cs, l, h => by
    rw [List.mapM_cons] at h
    cases hc : unbyte c with
    | none => simp [hc] at h
    | some b =>
      cases hm : cs.mapM unbyte with
      | none => simp [hc, hm] at h
      | some r =>
        simp [hc, hm] at h
        subst h
        rw [List.map_cons, ← unbyte_inv hc, ← mapM_inv cs r hm]
theorem unhv_inv {v : Value} {l : List UInt8} (h : unhv v = some l) : v = hv l := by
  unfold unhv at h
  split at h
  · rename_i cs
    have := mapM_inv _ _ h
    show Value.agg cs = Value.agg (hc l)
    unfold hc
    rw [← this]
  · cases h
/-- how a hash reads -/
def hR (v : Value) : Option (DataW Unit × List MemPlace) := (unhv v).map fun l => (.lit (.string l), [])
theorem hR_hv (l : List UInt8) : hR (hv l) = some (.lit (.string l), []) := by unfold hR; rw [unhv_hv]; rfl
theorem hR_inv {v : Value} {l : List UInt8} {ps : List MemPlace} (h : hR v = some (.lit (.string l), ps)) : v = hv l := by
  unfold hR at h
  cases hu : unhv v with
  | none => simp [hu] at h
  | some r =>
    rw [hu] at h
    simp only [Option.map_some, Option.some.injEq, Prod.mk.injEq, DataW.lit.injEq, Lit.string.injEq] at h
    rw [← h.1]; exact unhv_inv hu
/-- block b is a map, by level and index, to hashes -/
def TMap (w : World) (b n : Nat) (f : Int → Int → Option (List UInt8)) : Prop :=
  ∃ D : DataW Unit, w.ownsMap Tryd.prog 23 hR b n D ∧ ∀ i j, inI i → inI j → ∀ zd, D.atKey (kL i j) zd = match f i j with | some l => .lit (.string l) | none => zd
theorem TMap.lt {w : World} {b n : Nat} {f : Int → Int → Option (List UInt8)} (h : TMap w b n f) : b < w.heap.size := by
  obtain ⟨D, h, _⟩ := h; exact h.lt
theorem TMap.later {w w' : World} {b n : Nat} {f : Int → Int → Option (List UInt8)} (h : TMap w b n f) (hb : w'.heap[b]? = w.heap[b]?) : TMap w' b n f := by
  obtain ⟨D, ⟨es, clock, h1, h2⟩, h3⟩ := h
  exact ⟨D, ⟨es, clock, hb.trans h1, h2⟩, h3⟩
theorem TMap.made (w : World) : TMap (w.alloc (.map #[] 0)) w.heap.size 0 (fun _ _ => none) :=
  ⟨_, World.ownsMap_made w _ _ _, fun i j _ _ zd => rfl⟩
theorem TMap.congr {w : World} {b n : Nat} {f g : Int → Int → Option (List UInt8)} (h : TMap w b n f) (hfg : ∀ i j, inI i → inI j → f i j = g i j) : TMap w b n g := by
  obtain ⟨D, h1, h2⟩ := h
  exact ⟨D, h1, fun i j hi hj zd => by rw [← hfg i j hi hj]; exact h2 i j hi hj zd⟩
theorem TMap.mono {w : World} {b n n' : Nat} {f : Int → Int → Option (List UInt8)} (h : TMap w b n f) (hn : n ≤ n') : TMap w b n' f := by
  obtain ⟨D, h1, h2⟩ := h
  exact ⟨D, h1.mono hn, h2⟩
theorem TMap.look {w : World} {b n : Nat} {f : Int → Int → Option (List UInt8)} (h : TMap w b n f) (i j : Int) (hi : inI i) (hj : inI j) :
    (Instr.lookup 46 (.map (some b)) (kv i j) false).run Tryd.prog w = .ok (hv ((f i j).getD zero32)) w := by
  obtain ⟨D, h1, h2⟩ := h
  have hz : (zeroValue 29).run Tryd.prog w = .ok (hv zero32) w := by kernel_rfl
  obtain ⟨v, ps, hr, hv'⟩ := h1.lookup tile_keyed Tryd.underlying46 hz (hR_hv zero32) (tile_key i j hi hj)
  rw [h2 i j hi hj] at hv'
  rw [hr]
  cases hf : f i j with
  | none => rw [hf] at hv'; rw [hR_inv hv']; rfl
  | some l => rw [hf] at hv'; rw [hR_inv hv']; rfl
theorem TMap.look2 {w : World} {b n : Nat} {f : Int → Int → Option (List UInt8)} (h : TMap w b n f) (i j : Int) (hi : inI i) (hj : inI j) :
    (Instr.lookup 46 (.map (some b)) (kv i j) true).run Tryd.prog w = .ok (.tuple #[hv ((f i j).getD zero32), .bool (f i j).isSome]) w := by
  obtain ⟨D, h1, h2⟩ := h
  have hz : (zeroValue 29).run Tryd.prog w = .ok (hv zero32) w := by kernel_rfl
  obtain ⟨v, ps, hr, hv'⟩ := h1.look_ok tile_keyed Tryd.underlying46 hz (hR_hv zero32) (tile_key i j hi hj)
  have h3 := h2 i j hi hj
  rw [h3] at hv'
  rw [hr]
  cases hf : f i j with
  | none =>
    rw [hf] at hv' h3; rw [hR_inv hv']
    rw [Go.Maps.has_false_of_atKey (fun zd => h3 zd)]; rfl
  | some l =>
    rw [hf] at hv' h3; rw [hR_inv hv']
    rw [Go.Maps.has_true_of_atKey (fun zd => h3 zd)]; rfl
def putF (f : Int → Int → Option (List UInt8)) (i j : Int) (l : List UInt8) (a b : Int) : Option (List UInt8) := if a = i ∧ b = j then some l else f a b
theorem TMap.put {w : World} {b n : Nat} {f : Int → Int → Option (List UInt8)} (h : TMap w b n f) (hn : n < maxLen) (i j : Int) (hi : inI i) (hj : inI j) (l : List UInt8) :
    ∃ w', (Instr.mapUpdate 46 (.map (some b)) (kv i j) (hv l)).run Tryd.prog w = .ok () w' ∧ TMap w' b (n + 1) (putF f i j l) ∧ w.mapTurned w' b := by
  obtain ⟨D, h1, h2⟩ := h
  obtain ⟨w', hr, h3, h4⟩ := h1.store tile_keyed Tryd.underlying46 hn (tile_key i j hi hj) (hR_hv l)
  refine ⟨w', hr, ⟨_, h3, fun a c ha hc zd => ?_⟩, h4⟩
  unfold putF
  by_cases he : a = i ∧ c = j
  · obtain ⟨rfl, rfl⟩ := he
    rw [if_pos ⟨rfl, rfl⟩]
    exact Go.Maps.atKey_put_same h1.isMap (by unfold kL; trivial) _ _
  · rw [if_neg he, Go.Maps.atKey_put_other (kL_ne ha hc hi hj he)]
    exact h2 a c ha hc zd
theorem wpList_tile_look {w : World} {ops : Array Oper} {rest : List Oper} {o : Oper} {a : Act} {Q : Exit → Act → World → Prop}
    (hg : o.guard = none) (m x : Operand) (t : TypeId) (hop : o.op = Op.lookup t m x false) (ht : t = 46) {b n : Nat} {f : Int → Int → Option (List UInt8)} (hm : a.eval m = .map (some b)) (h : TMap w b n f) (i j : Int) (hx : a.eval x = kv i j) (hi : inI i) (hj : inI j) (T : Option (List UInt8)) (hT : f i j = T)
    (hK : wpList Tryd.prog ops Q rest (a.put o.dst (hv (T.getD zero32))) w) : wpList Tryd.prog ops Q (o :: rest) a w := by
  subst ht
  subst hT
  refine wpList_plain hg fun K' hK' => ?_
  have hr := h.look i j hi hj
  unfold Oper.wp
  simp only [execOp, hop, hm, hx, Sem.run_bind, hr, Result.andThen_ok, Sem.run_pure]
  exact hK' _ _ hK
theorem wpList_tile_look2 {w : World} {ops : Array Oper} {rest : List Oper} {o : Oper} {a : Act} {Q : Exit → Act → World → Prop}
    (hg : o.guard = none) (m x : Operand) (t : TypeId) (hop : o.op = Op.lookup t m x true) (ht : t = 46) {b n : Nat} {f : Int → Int → Option (List UInt8)} (hm : a.eval m = .map (some b)) (h : TMap w b n f) (i j : Int) (hx : a.eval x = kv i j) (hi : inI i) (hj : inI j) (T : Option (List UInt8)) (hT : f i j = T)
    (hK : wpList Tryd.prog ops Q rest (a.put o.dst (.tuple #[hv (T.getD zero32), .bool T.isSome])) w) : wpList Tryd.prog ops Q (o :: rest) a w := by
  subst ht
  subst hT
  refine wpList_plain hg fun K' hK' => ?_
  have hr := h.look2 i j hi hj
  unfold Oper.wp
  simp only [execOp, hop, hm, hx, Sem.run_bind, hr, Result.andThen_ok, Sem.run_pure]
  exact hK' _ _ hK
theorem wpList_tile_put {w : World} {ops : Array Oper} {rest : List Oper} {o : Oper} {a : Act} {Q : Exit → Act → World → Prop}
    (hg : o.guard = none) (m x y : Operand) (t : TypeId) (hop : o.op = Op.mapUpdate t m x y) (ht : t = 46) {b n : Nat} {f : Int → Int → Option (List UInt8)} (hm : a.eval m = .map (some b)) (h : TMap w b n f) (hn : n < maxLen) (i j : Int) (hx : a.eval x = kv i j) (hi : inI i) (hj : inI j)
    (l : List UInt8) (hy : a.eval y = hv l)
    (hK : ∀ w', TMap w' b (n + 1) (putF f i j l) → w.grownBy w' (some b) → wpList Tryd.prog ops Q rest (a.put o.dst undef) w') : wpList Tryd.prog ops Q (o :: rest) a w := by
  subst ht
  refine wpList_plain hg fun K' hK' => ?_
  obtain ⟨w', hr, h1, h2⟩ := h.put hn i j hi hj l
  unfold Oper.wp
  simp only [execOp, hop, hm, hx, hy, Sem.run_bind, hr, Result.andThen_ok, Sem.run_pure]
  exact hK' _ _ (hK w' h1 h2.grown)
theorem wpStill_tile_look {w : World} {ops : Array Oper} {rest : List Oper} {o : Oper} {a : Act} {Q : Act → Prop} (hgd : o.guard = none) (m x : Operand) (t : TypeId) (hop : o.op = .lookup t m x false) (ht : t = 46)
    {b n : Nat} {f : Int → Int → Option (List UInt8)} (hm : a.eval m = .map (some b)) (h : TMap w b n f) (i j : Int) (hx : a.eval x = kv i j) (hi : inI i) (hj : inI j) (T : Option (List UInt8)) (hT : f i j = T)
    (hK : wpStill Tryd.prog ops w Q rest (a.put o.dst (hv (T.getD zero32)))) : wpStill Tryd.prog ops w Q (o :: rest) a := by
  subst ht
  subst hT
  unfold wpStill
  rw [if_pos (by simp [Region.wanted, hgd])]
  have hr := h.look i j hi hj
  unfold Oper.still execOp
  simp only [hop, hm, hx, Sem.run_bind, hr, Result.andThen_ok, Sem.run_pure]
  exact ⟨rfl, hK⟩
theorem wpQuiet_tile_look {C : World → Prop} {ops : Array Oper} {rest : List Oper} {o : Oper} {a : Act} {Q : Act → Prop} (hgd : o.guard = none) (m x : Operand) (t : TypeId) (hop : o.op = .lookup t m x false) (ht : t = 46)
    {b n : Nat} {f : Int → Int → Option (List UInt8)} (hm : a.eval m = .map (some b)) (h : ∀ w', C w' → TMap w' b n f) (i j : Int) (hx : a.eval x = kv i j) (hi : inI i) (hj : inI j) (T : Option (List UInt8)) (hT : f i j = T)
    (hK : wpQuiet Tryd.prog ops C Q rest (a.put o.dst (hv (T.getD zero32)))) : wpQuiet Tryd.prog ops C Q (o :: rest) a := by
  subst ht
  subst hT
  refine wpQuiet_step fun K hK' => ?_
  rw [if_pos (by simp [Region.wanted, hgd])]
  refine ⟨_, fun w' hw' => ?_, hK' _ hK⟩
  have hr := (h w' hw').look i j hi hj
  unfold Oper.quietAt execOp
  simp only [hop, hm, hx, Sem.run_bind, hr, Result.andThen_ok, Sem.run_pure]
  exact ⟨rfl, rfl⟩
end Go.Proofs.YtbpjlancjdbehaaDoor
/- tiles of leaves; none, within, Size, Node -/
namespace Go.Spec
open Go.RowKit
variable {P : Program} {w : World}
theorem wpList_store_newH {ops : Array Oper} {rest : List Oper} {o : Oper} {a : Act} {Q : Exit → Act → World → Prop} (hgd : o.guard = none) (ty : TypeId) (x y : Operand) (ho : o.op = .store ty x y)
    (g : Nat) (hx : a.eval x = .pointer (some ⟨g, 0, none⟩)) (hg : g = w.heap.size) (l : List UInt8) (hy : a.eval y = hv l) (cur : Array Value) (t : TypeId) (hl : l.length = cur.size)
    (hi : (P.info? ty).map (·.size) = some l.length)
    (h : wpList P ops Q rest (a.put o.dst undef) (w.alloc (.cells (hc l) t))) : wpList P ops Q (o :: rest) a (w.alloc (.cells cur t)) := by
  subst hg
  exact wpList_store_new hgd ty x y ho hx l hy cur t hl hi h
theorem wpList_load_newH {ops : Array Oper} {rest : List Oper} {o : Oper} {a : Act} {Q : Exit → Act → World → Prop} (hgd : o.guard = none) (ty : TypeId) (x : Operand) (ho : o.op = .load ty x)
    (g : Nat) (hx : a.eval x = .pointer (some ⟨g, 0, none⟩)) (hg : g = w.heap.size) (l : List UInt8) (t : TypeId) (d : TypeDesc)
    (hu : P.underlying ty = some d) (hd : (match d with | .struct _ | .array _ _ => true | _ => false) = true) (hi : (P.info? ty).map (·.size) = some l.length)
    (h : wpList P ops Q rest (a.put o.dst (hv l)) (w.alloc (.cells (hc l) t))) : wpList P ops Q (o :: rest) a (w.alloc (.cells (hc l) t)) := by
  subst hg
  exact wpList_load_new hgd ty x ho hx l t d hu hd hi h
end Go.Spec
namespace Go.Proofs.YtbpjlancjdbehaaDoor
open Go.RowKit Go.Spec
/-- in block g are tiles of leaves, whose map is in block b -/
structure TilesAt (w : World) (g b : Nat) (l : List (List UInt8)) : Prop where
  blk : Blk w g #[.map (some b), .int .i64 (l.length : Int)] 48
  map : ∃ n, n ≤ 16 * l.length ∧ TMap w b n (tileZ l)
  r32 : ∀ x ∈ l, x.length = 32
  len : l.length ≤ 4096
theorem TilesAt.ne {w : World} {g b : Nat} {l : List (List UInt8)} (h : TilesAt w g b l) : b ≠ g := by
  obtain ⟨n, _, D, ⟨es, c, h1, _⟩, _⟩ := h.map
  have h2 := h.blk
  unfold Blk at h2
  intro e
  rw [e, h2] at h1
  cases h1
theorem TilesAt.lt {w : World} {g b : Nat} {l : List (List UInt8)} (h : TilesAt w g b l) : g < w.heap.size ∧ b < w.heap.size := by
  obtain ⟨n, _, hm⟩ := h.map
  exact ⟨h.blk.lt, hm.lt⟩
theorem TilesAt.kept {w w' : World} {g b : Nat} {l : List (List UInt8)} (h : TilesAt w g b l) (hg : w'.heap[g]? = w.heap[g]?) (hb : w'.heap[b]? = w.heap[b]?) : TilesAt w' g b l := by
  obtain ⟨n, hn, hm⟩ := h.map
  exact ⟨hg.trans h.blk, ⟨n, hn, hm.later hb⟩, h.r32, h.len⟩
theorem TilesAt.later {w w' : World} {g b : Nat} {l : List (List UInt8)} (h : TilesAt w g b l) (hb : Below w.heap.size w w') : TilesAt w' g b l :=
  h.kept (hb.block g h.lt.1) (hb.block b h.lt.2)
theorem TilesAt.c0 {w : World} {g b : Nat} {l : List (List UInt8)} (h : TilesAt w g b l) : w.cell? ⟨g, 0, none⟩ = some (.map (some b)) := h.blk.cell 0
theorem TilesAt.c1 {w : World} {g b : Nat} {l : List (List UInt8)} (h : TilesAt w g b l) : w.cell? ⟨g, 1, none⟩ = some (.int .i64 (l.length : Int)) := h.blk.cell 1
/-- w' is w but for the blocks g and b -/
structure Two (g b : Nat) (w w' : World) : Prop where
  os : w'.os = w.os
  tape : w'.tape = w.tape
  output : w'.output = w.output
  size : w.heap.size ≤ w'.heap.size
  block : ∀ k, k < w.heap.size → k ≠ g → k ≠ b → w'.heap[k]? = w.heap[k]?
theorem Two.refl (g b : Nat) (w : World) : Two g b w w := ⟨rfl, rfl, rfl, Nat.le_refl _, fun _ _ _ _ => rfl⟩
theorem Two.trans {g b : Nat} {u v w : World} (h : Two g b u v) (k : Two g b v w) : Two g b u w :=
  ⟨k.os.trans h.os, k.tape.trans h.tape, k.output.trans h.output, Nat.le_trans h.size k.size, fun i hi h1 h2 => (k.block i (Nat.lt_of_lt_of_le hi h.size) h1 h2).trans (h.block i hi h1 h2)⟩
theorem Two.of {g b : Nat} {w w' : World} (h : Below w.heap.size w w') : Two g b w w' := ⟨h.os, h.tape, h.output, h.size, fun k hk _ _ => h.block k hk⟩
theorem Two.ofG {g b : Nat} {w w' : World} (h : w.grownBy w' (some b)) : Two g b w w' := ⟨h.os, h.tape, h.output, h.size, fun k hk _ h2 => h.block k hk (fun e => h2 (by injection e))⟩
theorem Two.setCell {g b : Nat} (w : World) (j : Nat) (v : Value) : Two g b w (w.setCell ⟨g, j, none⟩ v) :=
  ⟨rfl, rfl, rfl, by simp [World.setCell], fun k _ h1 _ => by simp [World.setCell, Array.getElem?_modify]; intro h; exact absurd h.symm h1⟩
/-- blocks that the call itself made may be written, too -/
theorem Two.setRow {g b r : Nat} {w w' : World} (h : Two g b w w') (hr : w.heap.size ≤ r) (cs : Array Value) : Two g b w (w'.setRow r cs) :=
  ⟨h.os, h.tape, h.output, by rw [setRow_size']; exact h.size, fun k hk h1 h2 => by rw [setRow_ne (by omega)]; exact h.block k hk h1 h2⟩
theorem Two.below {g b B : Nat} {w w' : World} (h : Two g b w w') (hB : B ≤ w.heap.size) (hg : B ≤ g) (hb : B ≤ b) : Below B w w' :=
  ⟨h.os, h.tape, h.output, h.size, fun k hk => h.block k (by omega) (by omega) (by omega)⟩
theorem Two.blk {g b k : Nat} {w w' : World} {cs : Array Value} {t : TypeId} (h : Two g b w w') (hk : Blk w k cs t) (h1 : k ≠ g) (h2 : k ≠ b) : Blk w' k cs t := (h.block k hk.lt h1 h2).trans hk
set_option maxHeartbeats 400000 in
theorem none_any (g b : Nat) (l : List (List UInt8)) (w : World) (h : TilesAt w g b l) :
    Calls Tryd.prog 41 #[.pointer (some ⟨g, 0, none⟩)] w fun e w' => e = .returned (.bool false) ∧ w = w' := by
  have c0 := h.c0
  have hq := fun w => run_eql_map_nil_sl (P := Tryd.prog) w 46 _ _ (some b) Tryd.underlying46
  clear h
  go_enter Tryd.func41, Tryd.ntmps41
  go_wp2
  go_ret
  exact ⟨rfl, rfl⟩
set_option maxHeartbeats 400000 in
theorem none_nil (w : World) :
    Calls Tryd.prog 41 #[.pointer none] w fun e w' => e = .returned (.bool true) ∧ w = w' := by
  go_enter Tryd.func41, Tryd.ntmps41
  go_wp2
  go_ret
  exact ⟨rfl, rfl⟩
set_option maxHeartbeats 400000 in
theorem none_empty (g : Nat) (w : World) (c0 : w.cell? ⟨g, 0, none⟩ = some (.map none)) :
    Calls Tryd.prog 41 #[.pointer (some ⟨g, 0, none⟩)] w fun e w' => e = .returned (.bool true) ∧ w = w' := by
  have hq := fun w => run_eql_map_nil_sl (P := Tryd.prog) w 46 _ _ none Tryd.underlying46
  go_enter Tryd.func41, Tryd.ntmps41
  go_wp2
  go_ret
  exact ⟨rfl, rfl⟩
def withE (l : List (List UInt8)) (n : Int) : Int := if 0 ≤ n ∧ n ≤ l.length then 0 else 82
set_option maxHeartbeats 1000000 in
theorem within_any (g b : Nat) (l : List (List UInt8)) (n : Int) (w : World) (h : TilesAt w g b l) :
    Calls Tryd.prog 43 #[.pointer (some ⟨g, 0, none⟩), .int .i64 n] w fun e w' => e = .returned (.int .i64 (withE l n)) ∧ w = w' := by
  have c1 := h.c1
  have hN := hid (none_any g b l w h)
  clear h
  unfold withE
  by_cases h0 : n < 0
  · have d0 : decide (n < 0) = true := by simpa using h0
    rw [if_neg (by omega)]
    clear h0
    go_enter Tryd.func43, Tryd.ntmps43
    go_wp2_with (go_at_call 41; refine hN.out.mono ?_; rintro e w1 ⟨rfl, rfl⟩)
    go_ret
    exact ⟨rfl, rfl⟩
  · have d0 : decide (n < 0) = false := by simpa using h0
    by_cases h1 : (l.length : Int) < n
    · have d1 : decide ((l.length : Int) < n) = true := by simpa using h1
      rw [if_neg (by omega)]
      clear h0 h1
      go_enter Tryd.func43, Tryd.ntmps43
      go_wp2_with (go_at_call 41; refine hN.out.mono ?_; rintro e w1 ⟨rfl, rfl⟩)
      go_ret
      exact ⟨rfl, rfl⟩
    · have d1 : decide ((l.length : Int) < n) = false := by simpa using h1
      rw [if_pos (by omega)]
      clear h0 h1
      go_enter Tryd.func43, Tryd.ntmps43
      go_wp2_with (go_at_call 41; refine hN.out.mono ?_; rintro e w1 ⟨rfl, rfl⟩)
      go_ret
      exact ⟨rfl, rfl⟩
set_option maxHeartbeats 400000 in
theorem tsize_any (g b : Nat) (l : List (List UInt8)) (w : World) (h : TilesAt w g b l) :
    Calls Tryd.prog 23 #[.pointer (some ⟨g, 0, none⟩)] w fun e w' => e = .returned (.int .i64 (l.length : Int)) ∧ w = w' := by
  have c1 := h.c1
  have hN := hid (none_any g b l w h)
  clear h
  go_enter Tryd.func23, Tryd.ntmps23
  go_wp2_with (go_at_call 41; refine hN.out.mono ?_; rintro e w1 ⟨rfl, rfl⟩)
  go_ret
  exact ⟨rfl, rfl⟩
theorem tileZ_32 {l : List (List UInt8)} (h : ∀ x ∈ l, x.length = 32) (i j : Int) : ((tileZ l i j).getD zero32).length = 32 := by
  unfold tileZ tileN
  split
  · split
    · exact rootL_len _ _ (Nat.le_refl _) (seg_32 h _ _)
    · rfl
  · rfl
set_option maxHeartbeats 2000000 in
theorem tnode_any (g b : Nat) (l : List (List UInt8)) (i j : Int) (w : World) (h : TilesAt w g b l) (hi : inI i) (hj : inI j) :
    Calls Tryd.prog 12 #[.pointer (some ⟨g, 0, none⟩), .int .i64 i, .int .i64 j] w fun e w' => e = .returned (.tuple #[hv ((tileZ l i j).getD zero32), .bool (tileZ l i j).isSome]) ∧ Below w.heap.size w w' := by
  have c0 := h.c0
  have h32 := tileZ_32 h.r32 i j
  obtain ⟨n, _, hm⟩ := h.map
  have hw1 : Below w.heap.size w (w.alloc (.cells (hc zero32) 29)) := (Below.refl _ w).alloc (Nat.le_refl _) _
  have HN := hid (none_any g b l _ (h.later hw1))
  have HM := hid (hm.later (hw1.block b h.lt.2))
  have hlt := h.lt.1
  clear h
  have Hs := hid (show (Tryd.prog.info? 29).map (·.size) = some ((tileZ l i j).getD zero32).length by rw [h32]; exact Tryd.sizeHash)
  have Hs2 := hid (show (Tryd.prog.info? 29).map (·.size) = some (hc ((tileZ l i j).getD zero32)).size by rw [hc_size, h32]; exact Tryd.sizeHash)
  have Hz := hid (show (hc ((tileZ l i j).getD zero32)).size = (hc zero32).size by rw [hc_size, h32]; rfl)
  have Hz2 := hid (show ((tileZ l i j).getD zero32).length = (hc zero32).size by rw [h32]; rfl)
  have HB : Below w.heap.size w ((w.alloc (.cells (hc zero32) 29)).alloc (.cells (hc ((tileZ l i j).getD zero32)) 29)) := hw1.alloc (by simp) _
  have hZ : Blk ((w.alloc (.cells (hc zero32) 29)).alloc (.cells (hc ((tileZ l i j).getD zero32)) 29)) w.heap.size (hc zero32) 29 := (Blk.new _ _ _).alloc _
  generalize hT : tileZ l i j = T at *
  have HT := hid hT; clear hT
  clear hm h32 hw1
  go_enter Tryd.func12, Tryd.ntmps12
  go_wp2_with (first
    | (go_at_call 41; refine HN.out.mono ?_; rintro e w1 ⟨rfl, rfl⟩)
    | (at_lookup; refine wpList_tile_look2 rfl _ _ _ rfl rfl rfl HM.out i j rfl hi hj T HT.out ?_)
    | ((with_reducible show wpList _ _ _ ({ dst := _, op := Op.store _ (Operand.tmp 8) _, type := _, pos := _, after := _, guard := _ } :: _) _ _); refine wpList_store_newH rfl 29 _ _ rfl (w.heap.size + 1) rfl (by simp) (T.getD zero32) rfl (hc zero32) 29 Hz2.out Hs.out ?_)
    | ((with_reducible show wpList _ _ _ ({ dst := _, op := Op.store _ (Operand.tmp 6) _, type := _, pos := _, after := _, guard := _ } :: _) _ _); refine wpList_store_blk rfl 29 _ _ rfl w.heap.size rfl (hc (T.getD zero32)) rfl _ _ hZ Hz.out Hs2.out (hc_row_one _) ?_)
    | ((with_reducible show wpList _ _ _ ({ dst := _, op := Op.load 29 _, type := _, pos := _, after := _, guard := _ } :: _) _ _); refine wpList_load_newH rfl 29 _ rfl (w.heap.size + 1) rfl (by simp) (T.getD zero32) 29 _ Tryd.underlying29 rfl Hs.out ?_))
  refine bodyPost_ret (results_cell2 rfl _ w.heap.size 29 _ (0, 0) _ rfl (hZ.setRow) Tryd.underlying29 rfl Hs2.out) rfl ⟨rfl, ?_⟩
  exact HB.setRow (by omega) _
end Go.Proofs.YtbpjlancjdbehaaDoor
