/- General lemmas, without any program in sight: strings as lists of bytes, rows of cells, numbers as bytes. -/
import Derived.WalkKit
import Derived.WalkSpells
import Derived.WalkLawsBesides
import Derived.Deep.DeepCutAuto
import Derived.Deep.CutBlock
import Derived.Deep.CutRange
import Derived.Deep.QuietTactic
import Derived.BigQuiet
import Derived.Deep.RegionLaw
import Derived.Deep.RegionWith
import Derived.Deep.RegionHeld3
import Derived.Deep.DeepFit
import Derived.Deep.LoopGhost
import Derived.Deep.DeepMust
import Derived.Handy
import Derived.Lib.AppendStr
import Derived.Laws.MakeOwn
import Derived.Laws.Rows
import Derived.StillTailTactics
import Derived.IntWalk
set_option maxRecDepth 100000
namespace Go.Spec
open Go.RowKit
theorem hid {p : Prop} (h : p) : Hid p := h

/- Strings: all strings of a walk are written 'mkS l'. -/
def mkS (l : List UInt8) : ByteArray := ⟨l.toArray⟩
abbrev sv (l : List UInt8) : Value := .string (mkS l)
def bl (s : ByteArray) : List UInt8 := s.data.toList
theorem mkS_bl (s : ByteArray) : mkS (bl s) = s := by unfold mkS bl; simp
theorem mkS_form (s : ByteArray) : ∃ l, s = mkS l := ⟨bl s, (mkS_bl s).symm⟩
theorem mkS_inj {a b : List UInt8} (h : mkS a = mkS b) : a = b := by
  unfold mkS at h; simpa using h
theorem mkS_lit (l : List UInt8) : (⟨l.toArray⟩ : ByteArray) = mkS l := rfl
@[go_sem] theorem mkS_size (l : List UInt8) : (mkS l).size = l.length := by simp [mkS, ByteArray.size]
@[go_sem] theorem mkS_append (a b : List UInt8) : mkS a ++ mkS b = mkS (a ++ b) := by unfold mkS; rw [ByteArray.mk_append_mk]
@[go_sem] theorem mkS_append_lit (a b : List UInt8) : mkS a ++ (⟨b.toArray⟩ : ByteArray) = mkS (a ++ b) := mkS_append a b
@[go_sem] theorem mkS_lit_append (a b : List UInt8) : (⟨a.toArray⟩ : ByteArray) ++ mkS b = mkS (a ++ b) := mkS_append a b
@[go_sem] theorem mkS_toList (l : List UInt8) : (mkS l).toList = l := by unfold mkS; simp
@[go_sem] theorem mkS_extract (l : List UInt8) (a b : Nat) : (mkS l).extract a b = mkS ((l.take b).drop a) := by
  unfold mkS
  apply ByteArray.ext
  simp [ByteArray.data_extract, List.extract_eq_take_drop, List.drop_take]
theorem mkS_getElem' (l : List UInt8) (i : Nat) (h : i < (mkS l).size) : (mkS l)[i] = l[i]'(by simpa [mkS_size] using h) := rfl
@[go_sem] theorem mkS_getElem (l : List UInt8) (i : Nat) (h : i < (mkS l).size) : (mkS l)[i] = l[i]?.getD 0 := by
  have h' : i < l.length := by simpa [mkS_size] using h
  rw [mkS_getElem', List.getElem?_eq_getElem h']; rfl

/- A byte as a cell. -/
def bcell (b : UInt8) : Value := .int .u8 (b.toNat : Int)
theorem bcell_mk (k : Nat) (h : k < 256) : Value.int .u8 (k : Int) = bcell (UInt8.ofNat k) := by
  unfold bcell; rw [UInt8.toNat_ofNat_of_lt' h]
theorem bcell_one (l : List UInt8) : ∀ u ∈ l.map bcell, u.oneCell' = true := by
  intro u hu; simp at hu; obtain ⟨b, _, rfl⟩ := hu; rfl

/- Rows that the call made. -/
theorem ownsRow_some {w : World} {base e size n : Nat} {v : Value} {xs : List Value} (h : w.ownsRow base e size v n xs) (hn : 0 < n) :
    ∃ g cap, v = .slice (some ⟨g, 0, none⟩) n cap ∧ base ≤ g ∧ g < w.heap.size ∧ n ≤ cap ∧ (∀ j u, xs[j]? = some u → w.cell? ((⟨g, 0, none⟩ : Addr).add j) = some u) := by
  have h0 := h
  rcases h.2 with ⟨_, h⟩ | ⟨g, cap, cur, rfl, hb, hg, hnc, _⟩
  · omega
  · exact ⟨g, cap, rfl, hb, (Array.getElem?_eq_some_iff.1 hg).1, hnc, h0.cells (g := g) rfl⟩
theorem ownsRow_form {w : World} {base e size n : Nat} {v : Value} {xs : List Value} (h : w.ownsRow base e size v n xs) :
    ∃ a cap, v = .slice a n cap ∧ n ≤ cap := by
  rcases h.2 with ⟨rfl, rfl⟩ | ⟨g, cap, cur, rfl, hb, hg, hnc, _⟩
  · exact ⟨none, 0, rfl, Nat.le_refl _⟩
  · exact ⟨_, cap, rfl, hnc⟩
theorem ownsRow_lit {w : World} {base e : Nat} (x : Value) (hb : base ≤ w.heap.size) :
    (w.alloc (.cells #[x] e)).ownsRow base e 1 (.slice (some ⟨w.heap.size, 0, none⟩) 1 1) 1 [x] :=
  ⟨by simp, .inr ⟨w.heap.size, 1, #[x], rfl, hb, heap_alloc_new w _, Nat.le_refl _, by unfold maxLen; omega, by simp, by simp⟩⟩
theorem cell_row_alloc {w : World} {o : Obj} {g : Nat} {xs : List Value} (hg : g < w.heap.size) (h : ∀ j u, xs[j]? = some u → w.cell? ((⟨g, 0, none⟩ : Addr).add j) = some u) :
    ∀ j u, xs[j]? = some u → (w.alloc o).cell? ((⟨g, 0, none⟩ : Addr).add j) = some u := by
  intro j u hu
  have := h j u hu
  rw [Addr.add_lit] at this ⊢
  rw [World.cell?_alloc_past _ _ _ hg]
  exact this
/-- 'string(b)' of a row of bytes -/
theorem run_string_own {P : Program} {w : World} {base : Nat} (src dst e : TypeId) {v : Value} {n : Nat} {l : List UInt8} (hs : P.underlying src = some (.slice e)) (he : P.underlying e = some (.int .u8)) (hd : P.underlying dst = some .string)
    (h : w.ownsRow base e 1 v n (l.map bcell)) : (convert src dst v).run P w = .ok (sv l) w := by
  have hl : l.length = n := by simpa using h.1
  rcases h.2 with ⟨rfl, h0⟩ | ⟨g, cap, cur, rfl, hb, hg, hnc, _⟩
  · have : l = [] := List.eq_nil_of_length_eq_zero (by omega)
    subst this
    exact run_convert_bytes_nil w src e hs he 0 0 dst hd
  · subst hl
    exact run_convert_bytes_back w src dst e _ cap l hs he hd (fun j hj => h.cells (g := g) rfl j _ (by simp [hj, bcell]))

/-- old cells read as before, as rules of a walk -/
theorem bcells {W w1 : World} (hb : Below W.heap.size W w1) : (∀ b o, b < W.heap.size → w1.cell? ⟨b, o, none⟩ = W.cell? ⟨b, o, none⟩) ∧ (∀ b o, b < W.heap.size → w1.frozen? ⟨b, o, none⟩ = W.frozen? ⟨b, o, none⟩) :=
  ⟨fun b o h => hb.cell (p := ⟨b, o, none⟩) h, fun b o h => hb.frozen (p := ⟨b, o, none⟩) h⟩
/- A number's bytes. -/
def hib (n : Nat) : UInt8 := UInt8.ofNat (n % 128 + 128)
def lob (n : Nat) : UInt8 := UInt8.ofNat (n % 128)
def hiF : Nat → Nat → List UInt8
  | 0, _ => []
  | f + 1, n => if n = 0 then [] else hiF f (n / 128) ++ [hib n]
def hiN (n : Nat) : List UInt8 := hiF n n
def numL (n : Nat) : List UInt8 := hiN (n / 128) ++ [lob n]
theorem hib_cell (n : Nat) : bcell (hib n) = .int .u8 ((n : Int) % 128 + 128) := by unfold hib; rw [← bcell_mk _ (by omega)]; congr 1
theorem lob_cell (n : Nat) : bcell (lob n) = .int .u8 ((n : Int) % 128) := by unfold lob; rw [← bcell_mk _ (by omega)]; congr 1
theorem hiF_eq : ∀ (f g n : Nat), n ≤ f → n ≤ g → hiF f n = hiF g n
  | 0, g, n, h, _ => by
    have : n = 0 := by omega
    subst this; cases g <;> simp [hiF]
  | f + 1, 0, n, _, h => by
    have : n = 0 := by omega
    subst this; simp [hiF]
  | f + 1, g + 1, n, h, h' => by
    unfold hiF
    by_cases hn : n = 0
    · simp [hn]
    · simp only [hn, if_false]
      rw [hiF_eq f g (n / 128) (by omega) (by omega)]
theorem hiN_zero : hiN 0 = [] := rfl
theorem hiN_pos (n : Nat) (h : 0 < n) : hiN n = hiN (n / 128) ++ [hib n] := by
  unfold hiN
  obtain ⟨k, rfl⟩ : ∃ k, n = k + 1 := ⟨n - 1, by omega⟩
  rw [hiF, if_neg (by omega), hiF_eq k ((k+1)/128) _ (by omega) (by omega)]
theorem hiN_len (n : Nat) : ∀ f, n < 128 ^ f → (hiN n).length ≤ f := by
  intro f
  induction f generalizing n with
  | zero =>
    intro h
    have : n = 0 := by omega
    subst this; simp [hiN_zero]
  | succ f ih =>
    intro h
    by_cases hn : n = 0
    · subst hn; simp [hiN_zero]
    · rw [hiN_pos n (by omega)]
      have := ih (n / 128) (by rw [Nat.pow_succ] at h; omega)
      simp; exact this
theorem numL_len (n : Nat) (h : n < 18446744073709551616) : (numL n).length ≤ 10 := by
  unfold numL
  have := hiN_len (n / 128) 9 (by omega)
  simp; omega
theorem numL_pos (n : Nat) : 0 < (numL n).length := by unfold numL; simp
end Go.Spec
/- General lemmas on arrays of bytes by value (hashes): loading, storing, comparing, copying into them. -/
namespace Go.Spec
open Go.RowKit
/-- bytes as the cells of an array -/
def hc (h : List UInt8) : Array Value := (h.map bcell).toArray
abbrev hv (h : List UInt8) : Value := .agg (hc h)
@[go_sem] theorem hc_size (h : List UInt8) : (hc h).size = h.length := by simp [hc]
theorem hc_toList (h : List UInt8) : (hc h).toList = h.map bcell := by simp [hc]
theorem hc_get (h : List UInt8) (i : Nat) (hi : i < h.length) : (hc h)[i]? = some (bcell h[i]) := by simp [hc, hi]
theorem bcell_inj {a b : UInt8} (h : bcell a = bcell b) : a = b := by
  unfold bcell at h
  injection h with _ h
  exact UInt8.toNat_inj.1 (by omega)
theorem hc_inj {a b : List UInt8} (h : hc a = hc b) : a = b := by
  unfold hc at h
  have := List.toArray_inj h
  exact (List.map_inj_right (fun _ _ => bcell_inj)).1 this
theorem cell_at_row {w : World} {g : Nat} {cs : Array Value} {t : TypeId} {fr : Nat × Nat} (hg : w.heap[g]? = some (.cells cs t fr)) (j : Nat) : w.cell? ((⟨g, 0, none⟩ : Addr).add j) = cs[j]? := by
  rw [Addr.add_lit, cell_of_row w g _ cs t fr hg]; simp
variable {P : Program} {w : World}
theorem run_loadVar_agg (ty : TypeId) (ad : Addr) (cs : List Value) (d : TypeDesc) (hc : ∀ j v, cs[j]? = some v → w.cell? (ad.add j) = some v)
    (hu : P.underlying ty = some d) (hd : (match d with | .struct _ | .array _ _ => true | _ => false) = true) (hi : (P.info? ty).map (·.size) = some cs.length) :
    (loadVar ty ad).run P w = .ok (.agg cs.toArray) w := by
  have hl : (loadCells ad cs.length).run P w = .ok cs.toArray w := run_loadCells_list (P := P) w ad cs hc
  cases hq : P.info? ty with
  | none => simp [hq] at hi
  | some i =>
    have hs : i.size = cs.length := by simpa [hq] using hi
    have hagg : (isAgg ty).run P w = .ok true w := by
      unfold isAgg
      rw [Sem.run_bind, run_underlying hu w]
      cases d <;> simp_all
    simp [loadVar, Sem.run_bind, hagg, sizeOf, typeInfo, hq, hs, hl]
/-- a whole array or struct, loaded -/
theorem wpList_load_agg {ops : Array Oper} {rest : List Oper} {o : Oper} {a : Act} {Q : Exit → Act → World → Prop} (hgd : o.guard = none) (ty : TypeId) (x : Operand) (ho : o.op = .load ty x)
    (ad : Addr) (hx : a.eval x = .pointer (some ad)) (cs : List Value) (d : TypeDesc) (hc : ∀ j v, cs[j]? = some v → w.cell? (ad.add j) = some v)
    (hu : P.underlying ty = some d) (hd : (match d with | .struct _ | .array _ _ => true | _ => false) = true) (hi : (P.info? ty).map (·.size) = some cs.length)
    (h : wpList P ops Q rest (a.put o.dst (.agg cs.toArray)) w) : wpList P ops Q (o :: rest) a w :=
  wpList_plain hgd fun _ hK => by
    unfold Oper.wp execOp
    simp only [ho, hx, Instr.loadAt, Instr.sureAddr, Sem.run_bind, Sem.run_pure, Result.andThen_ok, run_loadVar_agg ty ad cs d hc hu hd hi]
    exact hK _ _ h
theorem setRow_get {g : Nat} {cur cs : Array Value} {t : TypeId} {fr : Nat × Nat} (hg : w.heap[g]? = some (.cells cur t fr)) : (w.setRow g cs).heap[g]? = some (.cells cs t fr) := by
  simp [World.setRow, Array.getElem?_modify, hg]
theorem setRow_ne {g k : Nat} {cs : Array Value} (h : k ≠ g) : (w.setRow g cs).heap[k]? = w.heap[k]? := by
  simp [World.setRow, Array.getElem?_modify]; intro h'; exact absurd h'.symm h
theorem setRow_size' {g : Nat} {cs : Array Value} : (w.setRow g cs).heap.size = w.heap.size := by simp [World.setRow]
theorem _root_.Go.RowKit.Below.setRow {B : Nat} {a : World} (h : Below B a w) {g : Nat} (hg : B ≤ g) (cs : Array Value) : Below B a (w.setRow g cs) :=
  h.trans ⟨rfl, rfl, rfl, by simp [World.setRow], fun k hk => setRow_ne (by omega)⟩
/-- a store of a whole array into a whole block -/
theorem run_storeVar_row (ty : TypeId) (g : Nat) (cur : Array Value) (t : TypeId) (cs : List Value) (hg : w.heap[g]? = some (.cells cur t (0, 0))) (hl : cs.length = cur.size)
    (hi : (P.info? ty).map (·.size) = some cs.length) (h1 : ∀ v ∈ cs, v.oneCell' = true) :
    (storeVar ty ⟨g, 0, none⟩ (.agg cs.toArray)).run P w = .ok () (w.setRow g cs.toArray) := by
  have hst := run_storeCells_at P g 0 t cs 0 cur w hg (by omega) h1
  have hdrop : List.drop cs.length cur.toList = [] := List.drop_eq_nil_of_le (by simp; omega)
  simp only [Nat.zero_add, Nat.add_zero, List.take_zero, List.nil_append, hdrop, List.append_nil] at hst
  cases hq : P.info? ty with
  | none => simp [hq] at hi
  | some i =>
    have hs : i.size = cs.length := by simpa [hq] using hi
    have hcs : (Value.agg cs.toArray).cells = cs.toArray := rfl
    simp [storeVar, Sem.run_bind, sizeOf, typeInfo, hq, hs, hst, hcs]
theorem wpList_store_hc {ops : Array Oper} {rest : List Oper} {o : Oper} {a : Act} {Q : Exit → Act → World → Prop} (hgd : o.guard = none) (ty : TypeId) (x y : Operand) (ho : o.op = .store ty x y)
    (g : Nat) (hx : a.eval x = .pointer (some ⟨g, 0, none⟩)) (l : List UInt8) (hy : a.eval y = hv l) (cur : Array Value) (t : TypeId) (hg : w.heap[g]? = some (.cells cur t (0, 0))) (hl : l.length = cur.size)
    (hi : (P.info? ty).map (·.size) = some l.length)
    (h : wpList P ops Q rest (a.put o.dst undef) (w.setRow g (hc l))) : wpList P ops Q (o :: rest) a w :=
  wpList_plain hgd fun _ hK => by
    have hr := run_storeVar_row (P := P) (w := w) ty g cur t (l.map bcell) hg (by simpa using hl) (by simpa using hi) (bcell_one l)
    have hy' : a.eval y = .agg (l.map bcell).toArray := hy
    unfold Oper.wp execOp
    simp only [ho, hx, hy', Instr.storeAt, Instr.sureAddr, Sem.run_bind, Sem.run_pure, Result.andThen_ok, hr]
    exact hK _ _ h
theorem wpList_store_row {ops : Array Oper} {rest : List Oper} {o : Oper} {a : Act} {Q : Exit → Act → World → Prop} (hgd : o.guard = none) (ty : TypeId) (x y : Operand) (ho : o.op = .store ty x y)
    (g : Nat) (hx : a.eval x = .pointer (some ⟨g, 0, none⟩)) (cs : List Value) (hy : a.eval y = .agg cs.toArray) (cur : Array Value) (t : TypeId) (hg : w.heap[g]? = some (.cells cur t (0, 0))) (hl : cs.length = cur.size)
    (hi : (P.info? ty).map (·.size) = some cs.length) (h1 : ∀ v ∈ cs, v.oneCell' = true)
    (h : wpList P ops Q rest (a.put o.dst undef) (w.setRow g cs.toArray)) : wpList P ops Q (o :: rest) a w :=
  wpList_plain hgd fun _ hK => by
    unfold Oper.wp execOp
    simp only [ho, hx, hy, Instr.storeAt, Instr.sureAddr, Sem.run_bind, Sem.run_pure, Result.andThen_ok, run_storeVar_row ty g cur t cs hg hl hi h1]
    exact hK _ _ h
/-- 'copy(h[o:], s)' of a string into a row of bytes -/
theorem run_copy_string (dT sT ty elem : TypeId) (g o dLen dCap : Nat) (cur : Array Value) (t : TypeId) (l : List UInt8)
    (hu : P.underlying dT = some (.slice elem)) (hs : (P.info? elem).map (·.size) = some 1)
    (hg : w.heap[g]? = some (.cells cur t (0, 0))) (hfit : o + dLen ≤ cur.size) :
    (Builtin.copy_ #[dT, sT] ty #[.slice (some ⟨g, o, none⟩) dLen dCap, .string (mkS l)]).run P w =
      .ok (goInt (Nat.min l.length dLen)) (w.setRow g (cur.toList.take o ++ (l.take dLen).map bcell ++ cur.toList.drop (o + (l.take dLen).length)).toArray) := by
  have hst := run_storeCells_at P g o t ((l.take dLen).map bcell) 0 cur w hg (by simp; omega) (bcell_one _)
  simp only [Nat.add_zero, List.length_map] at hst
  have hx : Array.map (fun b : UInt8 => Value.int .u8 (b.toNat : Int)) ((mkS l).extract 0 (Nat.min l.length dLen)).data = ((l.take dLen).map bcell).toArray := by
    rw [mkS_extract]
    have : (mkS (List.drop 0 (List.take (Nat.min l.length dLen) l))).data = (List.take (Nat.min l.length dLen) l).toArray := rfl
    rw [this, List.take_eq_take_iff.2 (show min (Nat.min l.length dLen) l.length = min dLen l.length by rw [show Nat.min l.length dLen = min l.length dLen from rfl]; omega)]
    simp
    rfl
  generalize (List.map bcell (List.take dLen l)) = X at hst hx ⊢
  generalize (List.take dLen l).length = y at hst ⊢
  cases hq : P.info? elem with
  | none => simp [hq] at hs
  | some i =>
    have hi : i.size = 1 := by simpa [hq] using hs
    simp only [Builtin.copy_, run_underlying hu, Builtin.lenOf, Builtin.firstCells, sizeOf, typeInfo, hq, hi, Sem.run_bind, Sem.run_pure, Result.andThen_ok, mkS_size, hx, run_program, List.getElem?_toArray, List.getElem?_cons_zero, List.getElem?_cons_succ]
    simp [hst]
/-- the same in a walk -/
theorem wpList_copy_string {ops : Array Oper} {rest : List Oper} {o : Oper} {a : Act} {Q : Exit → Act → World → Prop} (hgd : o.guard = none) (x y : Operand) (dT sT elem : TypeId)
    (ho : o.op = .call { callee := .builtin .copy, args := #[x, y], argTypes := #[dT, sT] })
    (g off dLen dCap : Nat) (hx : a.eval x = .slice (some ⟨g, off, none⟩) dLen dCap) (l : List UInt8) (hy : a.eval y = sv l) (cur : Array Value) (t : TypeId)
    (hu : P.underlying dT = some (.slice elem)) (hs : (P.info? elem).map (·.size) = some 1)
    (hg : w.heap[g]? = some (.cells cur t (0, 0))) (hfit : off + dLen ≤ cur.size)
    (new : Array Value) (hnew : (cur.toList.take off ++ (l.take dLen).map bcell ++ cur.toList.drop (off + (l.take dLen).length)).toArray = new)
    (h : wpList P ops Q rest (a.put o.dst (goInt (Nat.min l.length dLen))) (w.setRow g new)) : wpList P ops Q (o :: rest) a w :=
  wpList_plain hgd fun _ hK => by
    subst hnew
    unfold Oper.wp execOp
    have hr := run_copy_string (P := P) (w := w) dT sT o.type elem g off dLen dCap cur t l hu hs hg hfit
    simp only [ho, resolve, invoke, builtin, Sem.run_bind, Sem.run_pure, Result.andThen_ok, List.map_toArray, List.map_cons, List.map_nil, hx, hy, hr]
    exact hK _ _ h
/-- two arrays of bytes, compared -/
theorem run_equalIn_hc (d n : Nat) (t e : TypeId) (a b : List UInt8) (ht : P.underlying t = some (.array n e)) (he : P.underlying e = some (.int .u8)) (hs : (P.info? e).map (·.size) = some 1)
    (ha : a.length = n) (hb : b.length = n) : (Op.equalIn (d + 2) t (.agg (hc a)) (.agg (hc b))).run P w = .ok (a == b) w := by
  cases hq : P.info? e with
  | none => simp [hq] at hs
  | some i =>
    have hi : i.size = 1 := by simpa [hq] using hs
    have hpart : ∀ (c : List UInt8) (k : Nat) (hk : k < c.length), (part e (hc c) k).run P w = .ok (bcell c[k]) w := by
      intro c k hk
      have hnot : (isAgg e).run P w = .ok false w := by unfold isAgg; rw [Sem.run_bind, run_underlying he w]; simp
      simp [part, Sem.run_bind, hnot, hc_get c k hk]
    have hstep : ∀ (x y : UInt8), (Op.equalIn (d + 1) e (bcell x) (bcell y)).run P w = .ok (x == y) w := by
      intro x y
      rw [bcell, bcell, run_equalIn_int w d e .u8 .u8 _ _ he]
      congr 1
      rw [Bool.eq_iff_iff]; simp only [beq_iff_eq]
      exact ⟨fun h => UInt8.toNat_inj.1 (by omega), fun h => by rw [h]⟩
    rw [Op.equalIn]
    simp only [Sem.run_bind, run_underlying ht, Result.andThen_ok, sizeOf, typeInfo, run_program, hq, hi, Sem.run_pure, Nat.mul_one]
    rw [Std.Legacy.Range.forIn_eq_forIn_range']
    have hloop : ∀ (m k : Nat), k + m = n →
        (forIn (List.range' k m 1) ((none : Option Bool), ()) fun i __s => do
            let x ← part e (hc a) i
            let y ← part e (hc b) i
            let r ← Op.equalIn (d + 1) e x y
            if (!r) = true then pure (ForInStep.done (some false, ())) else pure (ForInStep.yield (none, ())) : Sem (Option Bool × Unit)).run P w
          = .ok (if a.drop k == b.drop k then ((none : Option Bool), ()) else (some false, ())) w := by
      intro m
      induction m with
      | zero =>
        intro k hk
        rw [List.drop_eq_nil_of_le (by omega), List.drop_eq_nil_of_le (by omega)]
        simp [List.range'_zero]
      | succ m ih =>
        intro k hk
        rw [List.range'_succ, List.forIn_cons]
        simp only [Sem.run_bind, hpart a k (by omega), hpart b k (by omega), hstep, Result.andThen_ok]
        have hdk : (a.drop k == b.drop k) = (a[k] == b[k] && (a.drop (k + 1) == b.drop (k + 1))) := by
          rw [List.drop_eq_getElem_cons (show k < a.length by omega), List.drop_eq_getElem_cons (show k < b.length by omega)]; rfl
        rw [hdk]
        by_cases hxy : a[k] = b[k]
        · have hb : (a[k] == b[k]) = true := by simpa using hxy
          simp only [hb, Bool.not_true, Bool.false_eq_true, if_false, Sem.run_pure, Result.andThen_ok]
          rw [ih (k + 1) (by omega), Bool.true_and]
        · have hb : (a[k] == b[k]) = false := by simpa using hxy
          simp only [hb, Bool.not_false, if_true, Sem.run_pure, Result.andThen_ok, Bool.false_and, Bool.false_eq_true, if_false]
    have h0 := hloop n 0 (by omega)
    simp only [List.drop_zero] at h0
    simp only [Std.Legacy.Range.size, Nat.sub_zero, Nat.add_sub_cancel, Nat.div_one]
    rw [h0]
    by_cases hab : a = b
    · simp [hab]
    · simp [hab]
@[go_sem] theorem run_equalIn_hash (t e : TypeId) (a b : List UInt8) (ht : P.underlying t = some (.array 32 e)) (he : P.underlying e = some (.int .u8)) (hs : (P.info? e).map (·.size) = some 1)
    (ha : a.length = 32) (hb : b.length = 32) : (Op.equalIn 10000 t (.agg (hc a)) (.agg (hc b))).run P w = .ok (a == b) w := run_equalIn_hc 9998 32 t e a b ht he hs ha hb
/-- results whose first one is an array or a struct in a block of its own -/
theorem results_cell3 {fn : Func} {p q r : Tmp} {ty : TypeId} (h : fn.results = #[.cell p ty, .tmp q, .tmp r]) (tmps : Array Value) (g : Nat) (t : TypeId) (cs : Array Value) (fr : Nat × Nat) (d : TypeDesc)
    (hp : tmps.getD p undef = .pointer (some ⟨g, 0, none⟩)) (hg : w.heap[g]? = some (.cells cs t fr))
    (hu : P.underlying ty = some d) (hd : (match d with | .struct _ | .array _ _ => true | _ => false) = true) (hi : (P.info? ty).map (·.size) = some cs.size) :
    (results fn tmps).run P w = .ok (.tuple #[.agg cs, tmps.getD q undef, tmps.getD r undef]) w := by
  have hp' : tmps[p]?.getD undef = .pointer (some ⟨g, 0, none⟩) := by simpa using hp
  simp [results, h, hp', asAddr, run_loadVar_row w g t ty cs fr d hg hu hd hi]
theorem results_cell2 {fn : Func} {p q : Tmp} {ty : TypeId} (h : fn.results = #[.cell p ty, .tmp q]) (tmps : Array Value) (g : Nat) (t : TypeId) (cs : Array Value) (fr : Nat × Nat) (d : TypeDesc)
    (hp : tmps.getD p undef = .pointer (some ⟨g, 0, none⟩)) (hg : w.heap[g]? = some (.cells cs t fr))
    (hu : P.underlying ty = some d) (hd : (match d with | .struct _ | .array _ _ => true | _ => false) = true) (hi : (P.info? ty).map (·.size) = some cs.size) :
    (results fn tmps).run P w = .ok (.tuple #[.agg cs, tmps.getD q undef]) w := by
  have hp' : tmps[p]?.getD undef = .pointer (some ⟨g, 0, none⟩) := by simpa using hp
  simp [results, h, hp', asAddr, run_loadVar_row w g t ty cs fr d hg hu hd hi]
theorem wpList_load_hc {ops : Array Oper} {rest : List Oper} {o : Oper} {a : Act} {Q : Exit → Act → World → Prop} (hgd : o.guard = none) (ty : TypeId) (x : Operand) (ho : o.op = .load ty x)
    (ad : Addr) (hx : a.eval x = .pointer (some ad)) (l : List UInt8) (d : TypeDesc) (hc : ∀ j v, (l.map bcell)[j]? = some v → w.cell? (ad.add j) = some v)
    (hu : P.underlying ty = some d) (hd : (match d with | .struct _ | .array _ _ => true | _ => false) = true) (hi : (P.info? ty).map (·.size) = some l.length)
    (h : wpList P ops Q rest (a.put o.dst (hv l)) w) : wpList P ops Q (o :: rest) a w :=
  wpList_load_agg hgd ty x ho ad hx (l.map bcell) d hc hu hd (by simpa using hi) h
theorem setRow_alloc (w : World) (cur cs : Array Value) (t : TypeId) (fr : Nat × Nat) : (w.alloc (.cells cur t fr)).setRow w.heap.size cs = w.alloc (.cells cs t fr) := by
  unfold World.setRow World.alloc
  congr 1
  apply Array.ext_getElem?
  intro i
  rw [Array.getElem?_modify, Array.getElem?_push, Array.getElem?_push]
  by_cases h : i = w.heap.size
  · subst h; simp
  · rw [if_neg (fun e => h e.symm)]; simp [h]
/-- a hash, stored into the block that was just made -/
theorem wpList_store_new {ops : Array Oper} {rest : List Oper} {o : Oper} {a : Act} {Q : Exit → Act → World → Prop} (hgd : o.guard = none) (ty : TypeId) (x y : Operand) (ho : o.op = .store ty x y)
    (hx : a.eval x = .pointer (some ⟨w.heap.size, 0, none⟩)) (l : List UInt8) (hy : a.eval y = hv l) (cur : Array Value) (t : TypeId) (hl : l.length = cur.size)
    (hi : (P.info? ty).map (·.size) = some l.length)
    (h : wpList P ops Q rest (a.put o.dst undef) (w.alloc (.cells (hc l) t))) : wpList P ops Q (o :: rest) a (w.alloc (.cells cur t)) :=
  wpList_store_hc hgd ty x y ho w.heap.size hx l hy cur t (heap_alloc_new w _) hl hi (by rw [setRow_alloc]; exact h)
/-- a hash, loaded out of the block that was just made -/
theorem wpList_load_new {ops : Array Oper} {rest : List Oper} {o : Oper} {a : Act} {Q : Exit → Act → World → Prop} (hgd : o.guard = none) (ty : TypeId) (x : Operand) (ho : o.op = .load ty x)
    (hx : a.eval x = .pointer (some ⟨w.heap.size, 0, none⟩)) (l : List UInt8) (t : TypeId) (d : TypeDesc)
    (hu : P.underlying ty = some d) (hd : (match d with | .struct _ | .array _ _ => true | _ => false) = true) (hi : (P.info? ty).map (·.size) = some l.length)
    (h : wpList P ops Q rest (a.put o.dst (hv l)) (w.alloc (.cells (hc l) t))) : wpList P ops Q (o :: rest) a (w.alloc (.cells (hc l) t)) :=
  wpList_load_row hgd ty x ho w.heap.size hx t (hc l) (0, 0) d (heap_alloc_new w _) hu hd (by rw [hc_size]; exact hi) h
theorem fold_set : ∀ (l : List Value) (k : Nat) (arr : Array Value), k + l.length = arr.size →
    ((l.zipIdx k).foldl (fun (cs : Array Value) (x : Value × Nat) => cs.setIfInBounds (0 + x.2) x.1) arr).toList = arr.toList.take k ++ l
  | [], k, arr, h => by simp at h ⊢; rw [List.take_of_length_le (by simp; omega)]
  | v :: l, k, arr, h => by
    simp only [List.zipIdx_cons, List.foldl_cons]
    rw [fold_set l (k + 1) _ (by simp at h ⊢; omega)]
    simp only [List.length_cons] at h
    rw [Nat.zero_add, Array.toList_setIfInBounds]
    rw [List.take_add_one]
    simp [List.getElem?_set, show k < arr.size by omega, List.take_set]
    exact List.set_eq_of_length_le (by simp; omega)
theorem fill_one (place : Nat → Option (Nat × Nat)) (arr cs : Array Value) (v : Value) (hv : v.cells = cs) (hp : place 0 = some (0, cs.size)) (ha : arr.size = cs.size) :
    Instr.fill place arr [(0, v)] = some cs := by
  subst hv
  have h := fold_set v.cells.toList 0 arr (by simp [ha])
  have he : Array.foldl (fun (cs : Array Value) (x : Value × Nat) => cs.setIfInBounds (0 + x.2) x.1) arr v.cells.zipIdx = v.cells := by
    rw [← Array.foldl_toList, Array.toList_zipIdx]
    apply Array.toList_inj.1
    rw [h]; simp
  have hn : (v.cells.size ≠ v.cells.size || decide (0 + v.cells.size > arr.size)) = false := by simp [ha]
  unfold Instr.fill
  rw [hp]
  simp only [hn, he]
  rfl
theorem run_buildSlice_one (t elem : TypeId) (size : Nat) (z v : Value) (cs : Array Value) (ht : P.underlying t = some (.slice elem)) (hi : (P.info? elem).map (fun i => (i.zero, i.size)) = some (some z, size))
    (hv : v.cells = cs) (hs : cs.size = size) (hs0 : 0 < size) (hs1 : size ≤ 16777216) :
    (Instr.buildSlice t 1 #[(0, v)]).run P w = .ok (.slice (some ⟨w.heap.size, 0, none⟩) 1 1) (w.alloc (.cells cs elem)) := by
  cases hq : P.info? elem with
  | none => simp [hq] at hi
  | some i =>
    obtain ⟨hz, hsz⟩ : i.zero = some z ∧ i.size = size := by simpa [hq] using hi
    have hf := fill_one (fun i => some (i * size, size)) ((Array.range (1 * size)).map (z.cells[· % z.cells.size]!)) cs v hv (by simp [hs]) (by simp [hs])
    have h0 : ¬ (1 * size > 2 ^ 24) := by omega
    have h1 : ¬ (1 * size = 0) := by omega
    simp only [Instr.buildSlice, Sem.run_bind, run_underlying ht, Result.andThen_ok, sizeOf, typeInfo, run_program, hq, hsz, Sem.run_pure, if_neg h0, if_neg h1, zeroValue, hz, hf]
    rfl
theorem wpList_buildSlice_one {ops : Array Oper} {rest : List Oper} {o : Oper} {a : Act} {Q : Exit → Act → World → Prop} (hgd : o.guard = none) (t elem : TypeId) (x : Operand) (ho : o.op = .buildSlice t 1 #[(0, x)])
    (size : Nat) (z v : Value) (cs : Array Value) (hx : a.eval x = v) (ht : P.underlying t = some (.slice elem)) (hi : (P.info? elem).map (fun i => (i.zero, i.size)) = some (some z, size))
    (hv : v.cells = cs) (hs : cs.size = size) (hs0 : 0 < size) (hs1 : size ≤ 16777216)
    (h : wpList P ops Q rest (a.put o.dst (.slice (some ⟨w.heap.size, 0, none⟩) 1 1)) (w.alloc (.cells cs elem))) : wpList P ops Q (o :: rest) a w :=
  wpList_plain hgd fun _ hK => by
    have hr := run_buildSlice_one (P := P) (w := w) t elem size z v cs ht hi hv hs hs0 hs1
    unfold Oper.wp execOp
    simp only [ho, List.map_toArray, List.map_cons, List.map_nil, hx, Sem.run_bind, Sem.run_pure, Result.andThen_ok, hr]
    exact hK _ _ h
/-- a guarded operation whose guard says yes -/
theorem wpList_want {ops : Array Oper} {rest : List Oper} {o : Oper} {a : Act} {Q : Exit → Act → World → Prop} (hw : Region.wanted o (yielded ops a.tmps) = true)
    (h : ∀ K : Act → World → Prop, (∀ a w, wpList P ops Q rest a w → K a w) → o.wp P a w K Q) : wpList P ops Q (o :: rest) a w :=
  wpList_step fun K hK => by rw [if_pos hw]; exact h K hK
theorem wpList_load_rowG {ops : Array Oper} {rest : List Oper} {o : Oper} {a : Act} {Q : Exit → Act → World → Prop} (hw : Region.wanted o (yielded ops a.tmps) = true) (ty : TypeId) (x : Operand) (ho : o.op = .load ty x)
    (g : Nat) (hx : a.eval x = .pointer (some ⟨g, 0, none⟩)) (t : TypeId) (cs : Array Value) (fr : Nat × Nat) (d : TypeDesc) (hg : w.heap[g]? = some (.cells cs t fr))
    (hu : P.underlying ty = some d) (hd : (match d with | .struct _ | .array _ _ => true | _ => false) = true) (hi : (P.info? ty).map (·.size) = some cs.size)
    (h : wpList P ops Q rest (a.put o.dst (.agg cs)) w) : wpList P ops Q (o :: rest) a w :=
  wpList_want hw fun _ hK => wp_load_row ty x ho g hx t cs fr d hg hu hd hi (hK _ _ h)
/-- a zero array, built in place -/
theorem wpList_build0 {ops : Array Oper} {rest : List Oper} {o : Oper} {a : Act} {Q : Exit → Act → World → Prop} (hw : Region.wanted o (yielded ops a.tmps) = true) (t : TypeId) (ho : o.op = .build t #[])
    (v : Value) (hr : (Instr.build t #[]).run P w = .ok v w) (h : wpList P ops Q rest (a.put o.dst v) w) : wpList P ops Q (o :: rest) a w :=
  wpList_want hw fun _ hK => by
    unfold Oper.wp execOp
    simp only [ho, List.map_toArray, List.map_nil, Sem.run_bind, Sem.run_pure, Result.andThen_ok, hr]
    exact hK _ _ h
/-- a slice value, read as lists of cells -/
def SlAt (w : World) (size : Nat) (v : Value) (css : List (List Value)) : Prop :=
  ∃ a cap, v = .slice a css.length cap ∧ css.length ≤ cap ∧ (∀ cs ∈ css, cs.length = size) ∧
    ∀ i cs, css[i]? = some cs → ∃ b o, a = some ⟨b, o, none⟩ ∧ b < w.heap.size ∧ (∀ j u, cs[j]? = some u → w.cell? ⟨b, o + i * size + j, none⟩ = some u)
theorem SlAt.below {w w' : World} {size : Nat} {v : Value} {css : List (List Value)} (h : SlAt w size v css) {B : Nat} (hb : Below B w w') (hB : w.heap.size ≤ B) : SlAt w' size v css := by
  obtain ⟨a, cap, hv, hc, hs, hr⟩ := h
  refine ⟨a, cap, hv, hc, hs, fun i cs hi => ?_⟩
  obtain ⟨b, o, ha, hlt, hcell⟩ := hr i cs hi
  have := hb.size
  exact ⟨b, o, ha, by omega, fun j u hj => by rw [hb.cell (p := ⟨b, _, none⟩) (Nat.lt_of_lt_of_le hlt hB)]; exact hcell j u hj⟩
/-- the cells of a list of hashes -/
def hcs (hs : List (List UInt8)) : List (List Value) := hs.map (fun h => h.map bcell)
theorem hcs_length (hs : List (List UInt8)) : (hcs hs).length = hs.length := by simp [hcs]
theorem SlAt.at {w : World} {size : Nat} {a : Option Addr} {n cap : Nat} {css : List (List Value)} (h : SlAt w size (.slice a n cap) css) {i : Nat} {cs : List Value} (hi : css[i]? = some cs) :
    ∃ b o, a = some ⟨b, o, none⟩ ∧ b < w.heap.size ∧ cs.length = size ∧ (∀ j u, cs[j]? = some u → w.cell? ((⟨b, o + i * size, none⟩ : Addr).add j) = some u) := by
  obtain ⟨a', cap', hv, hc, hs, hr⟩ := h
  injection hv with h1 h2 h3
  subst h1
  obtain ⟨b, o, ha, hlt, hcell⟩ := hr i cs hi
  exact ⟨b, o, ha, hlt, hs cs (List.mem_of_getElem? hi), fun j u hj => by rw [Addr.add_lit]; exact hcell j u hj⟩
theorem SlAt.form {w : World} {size : Nat} {v : Value} {css : List (List Value)} (h : SlAt w size v css) : ∃ a cap, v = .slice a css.length cap ∧ css.length ≤ cap := by
  obtain ⟨a, cap, hv, hc, _⟩ := h
  exact ⟨a, cap, hv, hc⟩
theorem SlAt.len32 {w : World} {v : Value} {hs : List (List UInt8)} (h : SlAt w 32 v (hcs hs)) : ∀ x ∈ hs, x.length = 32 := by
  obtain ⟨a, cap, hv, hc, hs', hr⟩ := h
  intro x hx
  have := hs' (x.map bcell) (List.mem_map_of_mem hx)
  simpa using this
theorem SlAt.formH {w : World} {v : Value} {hs : List (List UInt8)} (h : SlAt w 32 v (hcs hs)) : ∃ a cap, v = .slice a hs.length cap ∧ hs.length ≤ cap := by
  have := h.form
  rwa [hcs_length] at this
theorem flatten_len {hs : List (List UInt8)} (h : ∀ x ∈ hs, x.length = 32) : hs.flatten.length = hs.length * 32 := by
  induction hs with
  | nil => rfl
  | cons a l ih =>
    rw [List.flatten_cons, List.length_append, ih (fun x hx => h x (List.mem_cons_of_mem _ hx)), h a List.mem_cons_self, List.length_cons]; omega
/-- the bytes of a hash that is zero -/
def zero32 : List UInt8 := List.replicate 32 0
/-- the cells of a list of hashes, one behind the other -/
def hflat (hs : List (List UInt8)) : List Value := hs.flatten.map bcell
theorem hflat_nil : hflat [] = [] := rfl
theorem hflat_snoc (hs : List (List UInt8)) (h : List UInt8) : hflat (hs ++ [h]) = hflat hs ++ h.map bcell := by
  unfold hflat; rw [List.flatten_append, List.flatten_singleton, List.map_append]
theorem flat_get : ∀ (hs : List (List UInt8)), (∀ x ∈ hs, x.length = 32) → ∀ (i : Nat) (hi : i < hs.length) (j : Nat), j < 32 → hs.flatten[i * 32 + j]? = (hs[i])[j]?
  | [], _, i, hi, _, _ => by simp at hi
  | x :: xs, h32, 0, _, j, hj => by
    have hx32 : x.length = 32 := h32 x List.mem_cons_self
    rw [List.flatten_cons, List.getElem?_append_left (by omega)]; simp
  | x :: xs, h32, i + 1, hi, j, hj => by
    have hx32 : x.length = 32 := h32 x List.mem_cons_self
    rw [List.flatten_cons, List.getElem?_append_right (by omega), show (i + 1) * 32 + j - x.length = i * 32 + j by omega]
    rw [flat_get xs (fun y hy => h32 y (List.mem_cons_of_mem _ hy)) i (by simpa using hi) j hj]
    simp
theorem SlAt.of_owns {w : World} {base e size : Nat} {v : Value} {hs : List (List UInt8)} (h : w.ownsRow base e 32 v hs.length (hflat hs)) (h32 : ∀ x ∈ hs, x.length = 32) : SlAt w 32 v (hcs hs) := by
  have hcell : ∀ g cap, v = .slice (some ⟨g, 0, none⟩) hs.length cap → ∀ i cs, (hcs hs)[i]? = some cs → ∀ j u, cs[j]? = some u → w.cell? ⟨g, 0 + i * 32 + j, none⟩ = some u := by
    intro g cap hv i cs hi j u hj
    have hx := h.cells (g := g) (by rw [hv]; rfl) (i * 32 + j) u
    rw [Addr.add_lit] at hx
    have hi' : i < hs.length := by
      have := (List.getElem?_eq_some_iff.1 hi).1
      rwa [hcs_length] at this
    have he : cs = hs[i].map bcell := by
      simp only [hcs, List.getElem?_map, List.getElem?_eq_getElem hi', Option.map_some] at hi
      injection hi with hi
      exact hi.symm
    subst he
    have hj' : j < 32 := by
      have := (List.getElem?_eq_some_iff.1 hj).1
      rw [List.length_map, h32 _ (List.getElem_mem hi')] at this
      exact this
    rw [show 0 + i * 32 + j = 0 + (i * 32 + j) by omega]
    refine hx ?_
    unfold hflat
    rw [List.getElem?_map] at hj ⊢
    rw [← hj, flat_get hs h32 i hi' j hj']
  rcases h.2 with ⟨rfl, h0⟩ | ⟨g, cap, cur, rfl, hb, hg, hnc, hcm, _⟩
  · have : hs = [] := List.eq_nil_of_length_eq_zero h0
    subst this
    exact ⟨none, 0, rfl, Nat.le_refl _, fun _ h => by simp [hcs] at h, fun i cs h => by simp [hcs] at h⟩
  · refine ⟨_, cap, by rw [hcs_length], by rw [hcs_length]; exact hnc, ?_, fun i cs hi => ⟨g, 0, rfl, (Array.getElem?_eq_some_iff.1 hg).1, hcell g cap rfl i cs hi⟩⟩
    intro cs hcs'
    simp only [hcs, List.mem_map] at hcs'
    obtain ⟨l, hl, rfl⟩ := hcs'
    simpa using h32 l hl
theorem row_alloc {w : World} {cs : Array Value} {t : TypeId} {fr : Nat × Nat} : ∀ j u, cs.toList[j]? = some u → (w.alloc (.cells cs t fr)).cell? ((⟨w.heap.size, 0, none⟩ : Addr).add j) = some u := by
  intro j u hj
  rw [cell_at_row (heap_alloc_new w _)]
  simpa using hj
end Go.Spec
/- Appending to a row that the call made: where the new row lies. -/
namespace Go.Spec
open Go.RowKit
variable {P : Program} {w : World}
theorem run_append_at (base : Nat) (t ty e : TypeId) (i : TypeInfo) (z : Value) (size bytes : Nat) (ht : P.underlying t = some (.slice e)) (hi : P.info? e = some i) (hz : i.zero = some z)
    (hsize : i.size = size) (hby : i.bytes = bytes)
    (v : Value) (n : Nat) (xs : List Value) (hown : w.ownsRow base e size v n xs)
    (a : Addr) (m c : Nat) (news : List Value) (hl : news.length = m * size) (hnews : ∀ j u, news[j]? = some u → w.cell? (a.add j) = some u) (h1 : ∀ u ∈ news, u.oneCell' = true)
    (h63 : n + m ≤ maxLen) (hbytes : (n + m) * bytes ≤ 140737488355328)
    (v' : Value) (w' : World) (hr : (Builtin.append_ #[t, t] ty #[v, .slice (some a) m c]).run P w = .ok v' w') :
    ∀ k, v'.ownBlock = some k → v.ownBlock = some k ∨ k = w.heap.size := by
  subst hsize; subst hby
  have hsmall : n + m ≤ 9223372036854775807 := by simp only [maxLen] at h63; omega
  intro k hk
  rcases hown.2 with ⟨rfl, rfl⟩ | ⟨g, cap, cur, rfl, hbg, hg, hnc, hcm, hcs, htake⟩
  · by_cases hm : m = 0
    · subst hm
      have hn : news = [] := List.eq_nil_of_length_eq_zero (by simpa using hl)
      subst hn
      have : (Builtin.append_ #[t, t] ty #[.slice none 0 0, .slice (some a) 0 c]).run P w = .ok (.slice none 0 0) w := by
        simp [Builtin.append_, run_underlying ht, sizeOf, typeInfo, hi, Builtin.lenOf, Builtin.firstCells, loadCells, loadCellsFrom]
      rw [this] at hr
      injection hr with hr _
      subst hr
      simp [Value.ownBlock] at hk
    · have h := run_append_nil (P := P) w t ty e i z ht hi hz a m c news hl hnews (by omega) (by omega) (by have hb := hbytes; simp only [Nat.zero_add] at hb; omega)
      rw [h] at hr
      injection hr with hr _
      subst hr
      simp [Value.ownBlock] at hk
      exact .inr hk.symm
  · by_cases hroom : n + m ≤ cap
    · have hfit : n * i.size + news.length ≤ cur.size := by rw [hl, hcs, ← Nat.add_mul]; exact Nat.mul_le_mul_right _ hroom
      have h := run_append_room (P := P) w t ty e i ht hi g n cap cur hg a m c news hl hnews h1 hroom hfit
      rw [h] at hr
      injection hr with hr _
      subst hr
      exact .inl hk
    · have holds : ∀ j u, xs[j]? = some u → w.cell? ((⟨g, 0, none⟩ : Addr).add j) = some u := hown.cells (g := g) rfl
      have h := run_append_grow (P := P) w t ty e i z ht hi hz ⟨g, 0, none⟩ n cap xs hown.1 holds a m c news hl hnews (by omega) (by omega) (growslice_fits (by omega) hbytes)
      rw [h] at hr
      injection hr with hr _
      subst hr
      simp [Value.ownBlock] at hk
      exact .inr hk.symm
/-- the built-in append of a row to a row that the call made -/
theorem wpList_app {ops : Array Oper} {rest : List Oper} {o : Oper} {a : Act} {Q : Exit → Act → World → Prop} (hgd : o.guard = none) (s x : Operand) (t : TypeId)
    (ho : o.op = .call { callee := .builtin .append, args := #[s, x], argTypes := #[t, t] })
    (base : Nat) (e : TypeId) (i : TypeInfo) (z : Value) (size bytes : Nat) (ht : P.underlying t = some (.slice e)) (hi : P.info? e = some i) (hz : i.zero = some z)
    (hsize : i.size = size) (hby : i.bytes = bytes) (hzs : z.cells.size = size) (hsz : 0 < size)
    (v : Value) (n : Nat) (xs : List Value) (hs : a.eval s = v) (hown : w.ownsRow base e size v n xs)
    (ad : Addr) (m c : Nat) (news : List Value) (hx : a.eval x = .slice (some ad) m c) (hl : news.length = m * size) (hnews : ∀ j u, news[j]? = some u → w.cell? (ad.add j) = some u) (h1 : ∀ u ∈ news, u.oneCell' = true)
    (h63 : n + m ≤ maxLen) (hbytes : (n + m) * bytes ≤ 140737488355328) (hbase : base ≤ w.heap.size)
    (h : ∀ v' w', w'.ownsRow base e size v' (n + m) (xs ++ news) → w.grownBy w' v.ownBlock → (∀ k, v'.ownBlock = some k → v.ownBlock = some k ∨ k = w.heap.size) → wpList P ops Q rest (a.put o.dst v') w') : wpList P ops Q (o :: rest) a w :=
  wpList_plain hgd fun _ hK => by
    obtain ⟨v', w', hr, h2, h3, h4⟩ := run_append_own (P := P) w base t o.type e i z size bytes ht hi hz hsize hby hzs hsz v n xs hown ad m c news hl hnews h1 h63 hbytes hbase
    have h5 := run_append_at (P := P) (w := w) base t o.type e i z size bytes ht hi hz hsize hby v n xs hown ad m c news hl hnews h1 h63 hbytes v' w' hr
    unfold Oper.wp execOp
    simp only [ho, resolve, invoke, builtin, Sem.run_bind, Sem.run_pure, Result.andThen_ok, List.map_toArray, List.map_cons, List.map_nil, hs, hx, hr]
    exact hK _ _ (h v' w' h2 h3 h5)
theorem run_append_str_at (base : Nat) (t u ty e : TypeId) (i : TypeInfo) (ht : P.underlying t = some (.slice e)) (hu : P.underlying u = some .string) (hi : P.info? e = some i) (hz : i.zero = some (.int .u8 0))
    (hsize : i.size = 1) (hby : i.bytes = 1)
    (v : Value) (n : Nat) (xs : List Value) (hown : w.ownsRow base e 1 v n xs) (s : ByteArray)
    (h63 : n + s.size ≤ maxLen) (hbytes : n + s.size ≤ 140737488355328)
    (v' : Value) (w' : World) (hr : (Builtin.append_ #[t, u] ty #[v, .string s]).run P w = .ok v' w') :
    ∀ k, v'.ownBlock = some k → v.ownBlock = some k ∨ k = w.heap.size := by
  have hsmall : n + s.size ≤ 9223372036854775807 := by simp only [maxLen] at h63; omega
  intro k hk
  rcases hown.2 with ⟨rfl, rfl⟩ | ⟨g, cap, cur, rfl, hbg, hg, hnc, hcm, hcs, htake⟩
  · by_cases hm : s.size = 0
    · have hf := Lib.run_firstCells_string (P := P) w 1 s
      rw [hm] at hf
      have : (Builtin.append_ #[t, u] ty #[.slice none 0 0, .string s]).run P w = .ok (.slice none 0 0) w := by
        simp [Builtin.append_, run_underlying ht, run_underlying hu, sizeOf, typeInfo, hi, hsize, Builtin.lenOf, hm, hf]
      rw [this] at hr
      injection hr with hr _
      subst hr
      simp [Value.ownBlock] at hk
    · have h := run_append_nil_string (P := P) w t u ty e i (.int .u8 0) ht hu hi hz s (by omega) (by omega) (by rw [hby]; omega)
      rw [h] at hr
      injection hr with hr _
      subst hr
      simp [Value.ownBlock] at hk
      exact .inr hk.symm
  · by_cases hroom : n + s.size ≤ cap
    · have hcs' : cur.size = cap := by simpa using hcs
      have h := Lib.run_append_room_string (P := P) w t u ty e i ht hu hi hsize g n cap cur hg s hroom (by omega)
      rw [h] at hr
      injection hr with hr _
      subst hr
      exact .inl hk
    · have holds : ∀ j u, xs[j]? = some u → w.cell? ((⟨g, 0, none⟩ : Addr).add j) = some u := hown.cells (g := g) rfl
      have h := Lib.run_append_grow_string (P := P) w t u ty e i (.int .u8 0) ht hu hi hz ⟨g, 0, none⟩ n cap xs (by rw [hsize]; exact hown.1) holds s (by omega) (by omega) (by rw [hby]; exact growslice_fits (by omega) (by omega))
      rw [h] at hr
      injection hr with hr _
      subst hr
      simp [Value.ownBlock] at hk
      exact .inr hk.symm
/-- the built-in append of a string's bytes -/
theorem wpList_app_str {ops : Array Oper} {rest : List Oper} {o : Oper} {a : Act} {Q : Exit → Act → World → Prop} (hgd : o.guard = none) (sl x : Operand) (t u : TypeId)
    (ho : o.op = .call { callee := .builtin .append, args := #[sl, x], argTypes := #[t, u] })
    (base : Nat) (e : TypeId) (i : TypeInfo) (ht : P.underlying t = some (.slice e)) (hu : P.underlying u = some .string) (hi : P.info? e = some i) (hz : i.zero = some (.int .u8 0))
    (hsize : i.size = 1) (hby : i.bytes = 1)
    (v : Value) (l s : List UInt8) (hs : a.eval sl = v) (hown : w.ownsRow base e 1 v l.length (l.map bcell)) (hx : a.eval x = sv s)
    (hbytes : l.length + s.length ≤ 140737488355328) (hbase : base ≤ w.heap.size)
    (h : ∀ v' w', w'.ownsRow base e 1 v' (l ++ s).length ((l ++ s).map bcell) → w.grownBy w' v.ownBlock → (∀ k, v'.ownBlock = some k → v.ownBlock = some k ∨ k = w.heap.size) → wpList P ops Q rest (a.put o.dst v') w') : wpList P ops Q (o :: rest) a w :=
  wpList_plain hgd fun _ hK => by
    have hsz : (mkS s).size = s.length := mkS_size s
    obtain ⟨v', w', hr, h2, h3, _⟩ := Lib.run_append_own_string (P := P) w base t u o.type e i ht hu hi hz hsize hby v l.length _ hown (mkS s) (by rw [hsz]; unfold maxLen; omega) (by rw [hsz]; omega) hbase
    have h5 := run_append_str_at (P := P) (w := w) base t u o.type e i ht hu hi hz hsize hby v l.length _ hown (mkS s) (by rw [hsz]; unfold maxLen; omega) (by rw [hsz]; omega) v' w' hr
    have hcells : Lib.strCells (mkS s) = s.map bcell := rfl
    rw [hsz, hcells] at h2
    unfold Oper.wp execOp
    simp only [ho, resolve, invoke, builtin, Sem.run_bind, Sem.run_pure, Result.andThen_ok, List.map_toArray, List.map_cons, List.map_nil, hs, hx, hr]
    exact hK _ _ (h v' w' (by rw [List.length_append, List.map_append]; exact h2) h3 h5)
/- A region that draws its order, an operation at a time: the one that must come next, by a law of a list. -/
def nextQ (Q : Exit → Act → World → Prop) (K : Act → World → Prop) : Exit → Act → World → Prop
  | .normal, a, w => K a w
  | e, a, w => Q e a w
theorem wpAny_forced {ops : Array Oper} {md : Region.Mode} {Q : Exit → Act → World → Prop} {fuel : Nat} {listed : Array Bool} {a : Act} {i : Nat} {o : Oper} (hr : Region.ready md ops listed = [i]) (ho : ops[i]? = some o)
    (h : wpList P ops (nextQ Q (wpAny P md ops Q fuel (listed.setIfInBounds i true))) [o] a w) : wpAny P md ops Q (fuel + 1) listed a w := by
  refine wpAny_ready hr (by simp) ?_
  intro j hj
  obtain rfl : j = i := by simpa using hj
  unfold wpOp
  rw [ho]
  simp only [wpList] at h
  have hlet : LetsOut (nextQ Q (wpAny P md ops Q fuel (listed.setIfInBounds j true))) → LetsOut Q := fun ⟨a0, w0, h0⟩ => ⟨a0, w0, h0⟩
  by_cases hw : Region.wanted o (yielded ops a.tmps) = true
  · simp only [hw, if_true] at h ⊢
    rcases h with h | ⟨h1, h2⟩
    · left
      unfold Oper.wp at h ⊢
      revert h
      generalize (execOp a.eval o).run P w = r
      intro h
      cases r with
      | halt x w' => cases x <;> exact h
      | ok n w' =>
        cases n with
        | enter f args =>
          refine Calls.mono h fun e w'' h' => ?_
          cases e with
          | returned v => exact h'
          | panicked c => exact h'
          | outgrown => exact hlet h'
        | _ => exact h
    · exact .inr ⟨h1, hlet h2⟩
  · simp only [hw] at h ⊢
    exact h
/- Regions that draw their order and hold calls that make memory: one walk of the text's order, over all later worlds. -/
/-- the worlds in which all blocks of w are as they were -/
def Later (w : World) : Type := { w' : World // Below w.heap.size w w' }
def lat {w : World} (x : Later w) : World := x.1
theorem lat_below {w : World} (x : Later w) : Below w.heap.size w (lat x) := x.2
instance (w : World) : Nonempty (Later w) := ⟨⟨w, Below.refl _ _⟩⟩
@[go_sem] theorem lat_cell {w : World} (x : Later w) (b o : Nat) (h : b < w.heap.size) : (lat x).cell? ⟨b, o, none⟩ = w.cell? ⟨b, o, none⟩ := (lat_below x).cell (p := ⟨b, o, none⟩) h
theorem wp_region_later {id : Nat} {Q : Exit → Act → World → Prop} {a : Act} {l : List Oper} (hm : P.follows .mixedOrders = true) (hB : Region.lexB .any l.toArray = true)
    (h : wpQuiet P l.toArray (fun w' => ∃ x : Later w, w' = lat x) (fun a' => ∀ w', (∃ x : Later w, w' = lat x) → Q .normal a' w') l a) : (Code.region id l.toArray true).wp P Q a w :=
  wp_region_quiet (C := fun w' => ∃ x : Later w, w' = lat x) hm hB ⟨⟨{ w with drawn := w.drawn + 1 }, (Below.refl _ w).drew⟩, rfl⟩ (by simpa using h)
/-- a hash, loaded in such a region -/
theorem wpQuiet_load_hc {C : World → Prop} {Q : Act → Prop} {ops : Array Oper} {rest : List Oper} {o : Oper} {a : Act} (hgd : o.guard = none) (ty : TypeId) (x : Operand) (ho : o.op = .load ty x)
    (ad : Addr) (hx : a.eval x = .pointer (some ad)) (l : List UInt8) (d : TypeDesc) (hc : ∀ w', C w' → ∀ j v, (l.map bcell)[j]? = some v → w'.cell? (ad.add j) = some v)
    (hu : P.underlying ty = some d) (hd : (match d with | .struct _ | .array _ _ => true | _ => false) = true) (hi : (P.info? ty).map (·.size) = some l.length)
    (h : wpQuiet P ops C Q rest (a.put o.dst (hv l))) : wpQuiet P ops C Q (o :: rest) a :=
  wpQuiet_step fun K hK => by
    rw [if_pos (by simp [Region.wanted, hgd])]
    refine ⟨hv l, fun w' hw' => ?_, hK _ h⟩
    have hr := run_loadVar_agg (P := P) (w := w') ty ad (l.map bcell) d (hc w' hw') hu hd (by simpa using hi)
    unfold Oper.quietAt execOp
    simp only [ho, hx, Instr.loadAt, Instr.sureAddr, Sem.run_bind, Sem.run_pure, Result.andThen_ok, hr]
    exact ⟨rfl, rfl⟩
theorem lat_cells {w : World} (x : Later w) {b o : Nat} (hb : b < w.heap.size) {cs : List Value} (h : ∀ j v, cs[j]? = some v → w.cell? ((⟨b, o, none⟩ : Addr).add j) = some v) :
    ∀ j v, cs[j]? = some v → (lat x).cell? ((⟨b, o, none⟩ : Addr).add j) = some v := by
  intro j v hj
  have := h j v hj
  rw [Addr.add_lit] at this ⊢
  rw [lat_cell x _ _ hb]; exact this
theorem calls_later {f : FuncId} {args : Array Value} {x : Later w} {v : Value}
    (h : Calls P f args (lat x) fun e w' => e = .returned v ∧ Below (lat x).heap.size (lat x) w') : Calls P f args (lat x) fun e w'' => e = .returned v ∧ ∃ y : Later w, w'' = lat y :=
  h.mono fun _ w' ⟨he, hb⟩ => ⟨he, ⟨w', (lat_below x).trans (hb.mono (lat_below x).size)⟩, rfl⟩
end Go.Spec
/- Whole blocks: a row of cells by one function, read and written cell by cell; make; numbers of 32 bits. -/
namespace Go.Spec
open Go.RowKit
variable {P : Program} {w : World}
def rowOf {α : Type} (f : α → Value) (l : List α) : Array Value := (l.map f).toArray
theorem hc_row (l : List UInt8) : hc l = rowOf bcell l := rfl
@[go_sem] theorem rowOf_size {α : Type} (f : α → Value) (l : List α) : (rowOf f l).size = l.length := by simp [rowOf]
theorem rowOf_get {α : Type} (f : α → Value) (l : List α) (i : Nat) : (rowOf f l)[i]? = l[i]?.map f := by simp [rowOf]
theorem rowOf_set {α : Type} (f : α → Value) (l : List α) (i : Nat) (b : α) : (rowOf f l).setIfInBounds i (f b) = rowOf f (l.set i b) := by
  simp [rowOf, List.map_set]
/-- a block, whole -/
def Blk (w : World) (g : Nat) (cs : Array Value) (t : TypeId) : Prop := w.heap[g]? = some (.cells cs t (0, 0))
theorem Blk.lt {g : Nat} {cs : Array Value} {t : TypeId} (h : Blk w g cs t) : g < w.heap.size := (Array.getElem?_eq_some_iff.1 h).1
theorem Blk.new (w : World) (cs : Array Value) (t : TypeId) : Blk (w.alloc (.cells cs t (0, 0))) w.heap.size cs t := heap_alloc_new w _
theorem Blk.new' (w : World) (cs : Array Value) (t : TypeId) {g : Nat} (h : g = w.heap.size) : Blk (w.alloc (.cells cs t (0, 0))) g cs t := by subst h; exact heap_alloc_new w _
theorem Blk.below {w' : World} {g : Nat} {cs : Array Value} {t : TypeId} (h : Blk w g cs t) {B : Nat} (hb : Below B w w') (hg : g < B) : Blk w' g cs t := (hb.block g hg).trans h
theorem Blk.later {w' : World} {g : Nat} {cs : Array Value} {t : TypeId} (h : Blk w g cs t) (hb : Below w.heap.size w w') : Blk w' g cs t := h.below hb h.lt
theorem Blk.alloc {g : Nat} {cs : Array Value} {t : TypeId} (h : Blk w g cs t) (o : Obj) : Blk (w.alloc o) g cs t := by
  unfold Blk at *
  rw [← h]
  exact (Below.alloc (Below.refl w.heap.size w) (Nat.le_refl _) o).block g (Array.getElem?_eq_some_iff.1 h).1
theorem Blk.cell {g : Nat} {cs : Array Value} {t : TypeId} (h : Blk w g cs t) (i : Nat) : w.cell? ⟨g, i, none⟩ = cs[i]? := by
  have := cell_at_row h i
  rw [Addr.add_lit] at this
  simpa using this
theorem Blk.free {g : Nat} {cs : Array Value} {t : TypeId} (h : Blk w g cs t) (i : Nat) : w.frozen? ⟨g, i, none⟩ = false := by
  unfold World.frozen?
  rw [h]; simp
theorem Blk.cells {g : Nat} {cs : Array Value} {t : TypeId} (h : Blk w g cs t) : ∀ j u, cs.toList[j]? = some u → w.cell? ((⟨g, 0, none⟩ : Addr).add j) = some u := by
  intro j u hu
  rw [cell_at_row h j]
  simpa using hu
theorem Blk.setCell {g : Nat} {cs : Array Value} {t : TypeId} (h : Blk w g cs t) (i : Nat) (v : Value) : Blk (w.setCell ⟨g, i, none⟩ v) g (cs.setIfInBounds i v) t := by
  unfold Blk at *
  simp [World.setCell, Array.getElem?_modify, h]
theorem Blk.setCell_ne {g : Nat} {cs : Array Value} {t : TypeId} (h : Blk w g cs t) {a : Addr} (ha : a.block ≠ g) (v : Value) : Blk (w.setCell a v) g cs t := by
  unfold Blk at *
  rw [← h]
  simp [World.setCell, Array.getElem?_modify]
  intro h'; exact absurd h' ha
theorem Blk.setRow {g : Nat} {cs cs' : Array Value} {t : TypeId} (h : Blk w g cs t) : Blk (w.setRow g cs') g cs' t := setRow_get h
theorem Blk.setRow_ne {g k : Nat} {cs cs' : Array Value} {t : TypeId} (h : Blk w g cs t) (hk : g ≠ k) : Blk (w.setRow k cs') g cs t := (Go.Spec.setRow_ne hk).trans h
theorem Blk.heap {w' : World} {g : Nat} {cs : Array Value} {t : TypeId} (h : Blk w g cs t) (he : w'.heap = w.heap) : Blk w' g cs t := by unfold Blk; rw [he]; exact h
theorem Blk.drew {g : Nat} {cs : Array Value} {t : TypeId} (h : Blk w g cs t) : Blk w.drew g cs t := h
theorem Blk.drewN {g : Nat} {cs : Array Value} {t : TypeId} (h : Blk w g cs t) (n : Nat) : Blk (w.drewN n) g cs t := h
/-- rows of numbers of 32 bits -/
def uc (n : Nat) : Value := .int .u32 (n : Int)
theorem uc_one (l : List Nat) : ∀ u ∈ l.map uc, u.oneCell' = true := by
  intro u hu; simp at hu; obtain ⟨b, _, rfl⟩ := hu; rfl
theorem Blk.u32 {g : Nat} {ns : List Nat} {t : TypeId} (h : Blk w g (rowOf uc ns) t) (i : Nat) (hi : i < ns.length) : w.cell? ⟨g, i, none⟩ = some (.int .u32 (ns.getD i 0 : Nat)) := by
  rw [h.cell, rowOf_get, List.getD_eq_getElem?_getD, List.getElem?_eq_getElem hi]; rfl
theorem Blk.u32set {g : Nat} {ns : List Nat} {t : TypeId} (h : Blk w g (rowOf uc ns) t) (i : Nat) (x : Nat) : Blk (w.setCell ⟨g, i, none⟩ (.int .u32 (x : Int))) g (rowOf uc (ns.set i x)) t := by
  have := h.setCell i (uc x)
  rw [rowOf_set] at this
  exact this
theorem Blk.u8 {g : Nat} {l : List UInt8} {t : TypeId} (h : Blk w g (hc l) t) (i : Nat) (hi : i < l.length) : w.cell? ⟨g, i, none⟩ = some (.int .u8 ((l.getD i 0).toNat : Nat)) := by
  rw [h.cell, hc_get l i hi, List.getD_eq_getElem?_getD, List.getElem?_eq_getElem hi]; rfl
theorem Blk.u8set {g : Nat} {l : List UInt8} {t : TypeId} (h : Blk w g (hc l) t) (i : Nat) (x : UInt8) : Blk (w.setCell ⟨g, i, none⟩ (bcell x)) g (hc (l.set i x)) t := by
  have := h.setCell i (bcell x)
  rw [hc_row, rowOf_set] at this
  exact this
/-- make of bytes -/
theorem run_make_bytes (t e : TypeId) (i : TypeInfo) (ht : P.underlying t = some (.slice e)) (hi : P.info? e = some i) (hz : i.zero = some (.int .u8 0)) (h1 : i.size = 1) (h2 : i.bytes = 1) (n : Nat) (hn : n ≤ 281474976710656) (w : World) :
    (Instr.makeSlice t (.int .i64 (n : Int)) (.int .i64 (n : Int))).run P w = .ok (.slice (some ⟨w.heap.size, 0, none⟩) n n) (w.alloc (.cells (hc (List.replicate n 0)) e)) := by
  have hr := run_make (P := P) w t e i (.int .u8 0) ht hi hz .i64 .i64 (n : Int) (n : Int) (by omega) (Int.le_refl _) (by rw [h2]; omega) (by omega)
  rw [hr, h1]
  have : madeCells (Value.int .u8 0).cells ((n : Int).toNat * 1) = hc (List.replicate n 0) := by
    simp [madeCells, Value.cells, hc, bcell, Nat.mod_one]
    apply Array.ext
    · simp
    · intro j h1 h2; simp
  rw [this]; simp
/-- a row known whole is a row of the call's own -/
theorem Blk.owns {g : Nat} {cs : Array Value} {t : TypeId} (h : Blk w g cs t) {base size n : Nat} (hb : base ≤ g) (hn : n ≤ maxLen) (hs : cs.size = n * size) : w.ownsRow base t size (.slice (some ⟨g, 0, none⟩) n n) n cs.toList :=
  ⟨by rw [← hs]; exact Array.length_toList, .inr ⟨g, n, cs, rfl, hb, h, Nat.le_refl _, hn, hs, by rw [← hs]; exact List.take_of_length_le (by rw [Array.length_toList]; exact Nat.le_refl _)⟩⟩
theorem bth {w a b : World} (h : Below w.heap.size w a) (k : Below a.heap.size a b) : Below w.heap.size w b := h.trans (k.mono h.size)
theorem rowOf_toList {α : Type} (f : α → Value) (l : List α) : (rowOf f l).toList = l.map f := by simp [rowOf]
theorem wpList_store_blk {ops : Array Oper} {rest : List Oper} {o : Oper} {a : Act} {Q : Exit → Act → World → Prop} (hgd : o.guard = none) (ty : TypeId) (x y : Operand) (ho : o.op = .store ty x y)
    (g : Nat) (hx : a.eval x = .pointer (some ⟨g, 0, none⟩)) (cs : Array Value) (hy : a.eval y = .agg cs) (cur : Array Value) (t : TypeId) (hg : Blk w g cur t) (hl : cs.size = cur.size)
    (hi : (P.info? ty).map (·.size) = some cs.size) (h1 : ∀ v ∈ cs.toList, v.oneCell' = true)
    (h : wpList P ops Q rest (a.put o.dst undef) (w.setRow g cs)) : wpList P ops Q (o :: rest) a w := by
  have := wpList_store_row (P := P) (w := w) (ops := ops) (rest := rest) (a := a) (Q := Q) hgd ty x y ho g hx cs.toList (by simpa using hy) cur t hg (by simpa using hl) (by simpa using hi) h1
  exact this (by simpa using h)
theorem wpList_load_blk {ops : Array Oper} {rest : List Oper} {o : Oper} {a : Act} {Q : Exit → Act → World → Prop} (hgd : o.guard = none) (ty : TypeId) (x : Operand) (ho : o.op = .load ty x)
    (g : Nat) (hx : a.eval x = .pointer (some ⟨g, 0, none⟩)) (t : TypeId) (cs : Array Value) (d : TypeDesc) (hg : Blk w g cs t)
    (hu : P.underlying ty = some d) (hd : (match d with | .struct _ | .array _ _ => true | _ => false) = true) (hi : (P.info? ty).map (·.size) = some cs.size)
    (h : wpList P ops Q rest (a.put o.dst (.agg cs)) w) : wpList P ops Q (o :: rest) a w :=
  wpList_load_row hgd ty x ho g hx t cs (0, 0) d hg hu hd hi h
theorem wpStill_load_blk {ops : Array Oper} {rest : List Oper} {o : Oper} {a : Act} {Q : Act → Prop} (hgd : o.guard = none) (ty : TypeId) (x : Operand) (ho : o.op = .load ty x)
    (g : Nat) (hx : a.eval x = .pointer (some ⟨g, 0, none⟩)) (t : TypeId) (cs : Array Value) (d : TypeDesc) (hg : Blk w g cs t)
    (hu : P.underlying ty = some d) (hd : (match d with | .struct _ | .array _ _ => true | _ => false) = true) (hi : (P.info? ty).map (·.size) = some cs.size)
    (h : wpStill P ops w Q rest (a.put o.dst (.agg cs))) : wpStill P ops w Q (o :: rest) a := by
  unfold wpStill
  rw [if_pos (by simp [Region.wanted, hgd])]
  have hr := run_loadVar_row (P := P) w g t ty cs (0, 0) d hg hu hd hi
  unfold Oper.still execOp
  simp only [ho, hx, Instr.loadAt, Instr.sureAddr, Sem.run_bind, Sem.run_pure, Result.andThen_ok, hr]
  exact ⟨rfl, h⟩
/-- 'h[i:]' of an array of bytes behind a pointer -/
theorem run_sliceAt_bytes (t e : TypeId) (n : Nat) (ht : P.underlying t = some (.array n e)) (hs : (P.info? e).map (·.size) = some 1) (g l : Nat) (i : Int) (hi : i = l) (hl : l < n) (w : World) :
    (Instr.sliceAt t (.pointer (some ⟨g, 0, none⟩)) (some (.int .i64 i)) none none).run P w = .ok (.slice (some ⟨g, l, none⟩) (n - l) (n - l)) w := by
  subst hi
  cases hq : P.info? e with
  | none => simp [hq] at hs
  | some j =>
    have hj : j.size = 1 := by simpa [hq] using hs
    have h1 : ((0 : Int) ≤ (l : Int) ∧ (l : Int) ≤ (n : Int)) := by omega
    have h2 : n ≠ l := by omega
    have h3 : l ≤ n := by omega
    simp [Instr.sliceAt, Instr.sureAddr, run_underlying ht, Instr.sliceBounds, Instr.sliceBound, asIntOf, Sem.run_bind, sizeOf, typeInfo, hq, hj, h1, h2, h3, Addr.add_lit]
/-- an array of constants -/
theorem wpList_buildV {ops : Array Oper} {rest : List Oper} {o : Oper} {a : Act} {Q : Exit → Act → World → Prop} (hgd : o.guard = none) (t : TypeId) (parts : Array (Nat × Operand)) (ho : o.op = .build t parts) (v : Value)
    (hr : (Instr.build t (parts.map fun (i, x) => (i, a.eval x))).run P w = .ok v w)
    (h : wpList P ops Q rest (a.put o.dst v) w) : wpList P ops Q (o :: rest) a w :=
  wpList_plain hgd fun _ hK => by
    unfold Oper.wp execOp
    simp only [ho, hr, Sem.run_bind, Sem.run_pure, Result.andThen_ok]
    exact hK _ _ h
theorem uc_row_one (l : List Nat) : ∀ v ∈ (rowOf uc l).toList, v.oneCell' = true := by rw [rowOf_toList]; exact uc_one l
theorem hc_row_one (l : List UInt8) : ∀ v ∈ (hc l).toList, v.oneCell' = true := by rw [hc_toList]; exact bcell_one l
/-- an array of numbers by value, indexed -/
theorem run_index_agg (t e : TypeId) (n : Nat) (cs : Array Value) (k : Nat) (v : Value) (d : TypeDesc) (ht : P.underlying t = some (.array n e)) (he : P.underlying e = some d) (hd : (match d with | .struct _ | .array _ _ => false | _ => true) = true) (hs : (P.info? e).map (·.size) = some 1) (hk : k < n) (hv : cs[k]? = some v) (w : World) :
    (Instr.index t (.agg cs) (.int .i64 (k : Int))).run P w = .ok v w := by
  cases hq : P.info? e with
  | none => simp [hq] at hs
  | some i =>
    have hi : i.size = 1 := by simpa [hq] using hs
    have hnot : (isAgg e).run P w = .ok false w := by
      unfold isAgg; rw [Sem.run_bind, run_underlying he w]
      cases d <;> simp_all
    simp [Instr.index, Sem.run_bind, asIntOf, run_underlying ht, sizeOf, typeInfo, hq, hi, hk, part, hnot, hv]
theorem run_index_row (t e : TypeId) (n : Nat) (ns : List Nat) (k : Nat) (ht : P.underlying t = some (.array n e)) (he : P.underlying e = some (.int .u32)) (hs : (P.info? e).map (·.size) = some 1) (hk : k < n) (hl : k < ns.length) (w : World) :
    (Instr.index t (.agg (rowOf uc ns)) (.int .i64 (k : Int))).run P w = .ok (.int .u32 (ns.getD k 0 : Nat)) w :=
  run_index_agg t e n _ k _ _ ht he rfl hs hk (by rw [rowOf_get, List.getD_eq_getElem?_getD, List.getElem?_eq_getElem hl]; rfl) w
/-- a table of the program's -/
structure Tab (w : World) (g : Nat) (ns : List Nat) : Prop where
  lt : g < w.heap.size
  at_ : ∀ i, i < ns.length → w.cell? ⟨g, i, none⟩ = some (.int .u32 (ns.getD i 0 : Nat))
theorem Tab.later {w' : World} {g : Nat} {ns : List Nat} (h : Tab w g ns) (hb : Below w.heap.size w w') : Tab w' g ns :=
  ⟨Nat.lt_of_lt_of_le h.lt hb.size, fun i hi => (hb.cell (p := ⟨g, i, none⟩) h.lt).trans (h.at_ i hi)⟩
theorem Tab.heap {w' : World} {g : Nat} {ns : List Nat} (h : Tab w g ns) (he : w'.heap = w.heap) : Tab w' g ns :=
  ⟨by rw [he]; exact h.lt, fun i hi => by rw [← h.at_ i hi]; unfold World.cell?; rw [he]⟩
theorem Tab.row {g k : Nat} {ns : List Nat} {cs : Array Value} (h : Tab w g ns) (hk : g ≠ k) : Tab (w.setRow k cs) g ns :=
  ⟨by rw [setRow_size']; exact h.lt, fun i hi => by rw [← h.at_ i hi]; unfold World.cell?; rw [Go.Spec.setRow_ne hk]⟩
/-- a region that draws its order: quiet operations ahead of a forced tail; the world behind the draw under a name -/
theorem wp_region_tail {id : Nat} {Q : Exit → Act → World → Prop} {a : Act} {l : List Oper} (n : Nat) (hm : P.follows .mixedOrders = true) (hB : Region.lexTailB .any l.toArray n = true)
    (h : ∀ w1 : World, w1.heap = w.heap → Below w.heap.size w w1 → wpStill P l.toArray w1 (fun a' => wpList P l.toArray Q (l.drop n) a' w1) (l.take n) a) : (Code.region id l.toArray true).wp P Q a w :=
  wp_region_still_tail n hm hB (h _ rfl (Below.refl _ w).drew)
end Go.Spec
