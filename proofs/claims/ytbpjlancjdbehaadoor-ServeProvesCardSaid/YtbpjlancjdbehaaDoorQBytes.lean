/- Rows of bytes that the call made, their blocks marked or not: '[]byte(s)' and what is appended to it, a byte at a time. -/
import Derived.Test.YtbpjlancjdbehaaDoorQBase
import Derived.ArgAppend
import Derived.Lib.ConvBytes
set_option maxRecDepth 100000
namespace Go.Spec
open Go.RowKit
variable {P : Program} {w : World}
def RowM (w : World) (base e : Nat) (v : Value) (l : List UInt8) : Prop :=
  ∃ g cap cur fr, v = .slice (some ⟨g, 0, none⟩) l.length cap ∧ base ≤ g ∧ w.heap[g]? = some (.cells cur e fr) ∧ (fr = (0, 0) ∨ cur.size ≤ fr.1) ∧ l.length ≤ cap ∧ cap ≤ maxLen ∧ cur.size = cap ∧ cur.toList.take l.length = l.map bcell
theorem RowM.below {w' : World} {base e : Nat} {v : Value} {l : List UInt8} (h : RowM w base e v l) (hb : Below w.heap.size w w') : RowM w' base e v l := by
  obtain ⟨g, cap, cur, fr, hv, h1, h2, h3⟩ := h
  exact ⟨g, cap, cur, fr, hv, h1, (hb.block g (Array.getElem?_eq_some_iff.1 h2).1).trans h2, h3⟩
theorem RowM.alloc {base e : Nat} {v : Value} {l : List UInt8} (h : RowM w base e v l) (o : Obj) : RowM (w.alloc o) base e v l := h.below ((Below.refl _ _).alloc (Nat.le_refl _) o)
theorem RowM.get {base e : Nat} {v : Value} {l : List UInt8} (h : RowM w base e v l) :
    ∃ g cap, v = .slice (some ⟨g, 0, none⟩) l.length cap ∧ base ≤ g ∧ g < w.heap.size ∧ l.length ≤ cap ∧ (∀ j, j < l.length → w.cell? ⟨g, j, none⟩ = some (.int .u8 ((l.getD j 0).toNat : Nat))) := by
  obtain ⟨g, cap, cur, fr, rfl, h1, h2, _, h4, h5, h6, h7⟩ := h
  refine ⟨g, cap, rfl, h1, (Array.getElem?_eq_some_iff.1 h2).1, h4, fun j hj => ?_⟩
  have := cell_at_row h2 j
  rw [Addr.add_lit, Nat.zero_add] at this
  rw [this]
  have e1 : cur[j]? = (cur.toList.take l.length)[j]? := by rw [List.getElem?_take_of_lt hj, Array.getElem?_toList]
  rw [e1, h7, List.getElem?_map, List.getElem?_eq_getElem hj, List.getD_eq_getElem?_getD, List.getElem?_eq_getElem hj]
  rfl
/-- '[]byte(s)' -/
theorem RowM.conv (w : World) (src dst e : TypeId) (s : List UInt8) {u : TypeDesc} (hs : P.underlying src = some u) (hd : P.underlying dst = some (.slice e)) (he : P.underlying e = some (.int .u8)) (hl : s.length ≤ maxLen) :
    ∃ v w', (convert src dst (sv s)).run P w = .ok v w' ∧ RowM w' w.heap.size e v s ∧ Below w.heap.size w w' := by
  have hu : ∃ w', (convert src dst (sv s)).run P w = .ok (.slice (some ⟨w.heap.size, 0, none⟩) s.length (grownCap w s.length 0 e)) w' ∧ w' = Lib.bytesWorld w e (mkS s) := by
    have := Lib.run_convert_string_bytes (P := P) w src dst e (mkS s) hs hd he
    rw [mkS_size] at this
    exact ⟨_, this, rfl⟩
  obtain ⟨w', hr, hw⟩ := hu
  have hcs : Lib.bytesCells w e (mkS s) = ((s.map bcell) ++ List.replicate (grownCap w s.length 0 e - s.length) (Value.int .u8 0)).toArray := by
    unfold Lib.bytesCells
    rw [mkS_size]
    show Array.map _ s.toArray ++ _ = _
    simp
    exact fun _ _ => rfl
  have hge := grownCap_ge w s.length 0 e
  have hsz : (Lib.bytesCells w e (mkS s)).size = grownCap w s.length 0 e := by rw [hcs]; simp; omega
  refine ⟨_, w', hr, ⟨w.heap.size, _, _, _, rfl, Nat.le_refl _, by rw [hw]; exact Lib.bytesWorld_at_new w e (mkS s), .inr (Nat.le_refl _), hge, grownCap_le_maxLen w _ _ _ hl, hsz, ?_⟩, ?_⟩
  · rw [hcs]
    simp
    try rw [List.take_left' (by simp)]
  · rw [hw]
    exact ⟨by simp [Lib.bytesWorld, World.freeze, World.alloc, World.drew, -World.alloc_eq, -World.drew_eq], by simp [Lib.bytesWorld, World.freeze, World.alloc, World.drew, -World.alloc_eq, -World.drew_eq], by simp [Lib.bytesWorld, World.freeze, World.alloc, World.drew, -World.alloc_eq, -World.drew_eq],
      by rw [Lib.bytesWorld_size]; omega, fun k hk => Lib.bytesWorld_at_old w e (mkS s) k hk⟩
/-- one byte more -/
theorem RowM.app (base : Nat) (e t ty : TypeId) (i : TypeInfo) (ht : P.underlying t = some (.slice e)) (hi : P.info? e = some i) (hz : i.zero = some (.int .u8 0)) (hsize : i.size = 1) (hby : i.bytes = 1)
    {v : Value} {l : List UInt8} (h : RowM w base e v l) (hbase : base ≤ w.heap.size) (b : UInt8) (a : Addr) (c : Nat) (hnew : w.cell? a = some (bcell b)) (hn : a.spot = none) (hlen : l.length + 1 ≤ 140737488355328) :
    ∃ v' w', (Builtin.append_ #[t, t] ty #[v, .slice (some a) 1 c]).run P w = .ok v' w' ∧ RowM w' base e v' (l ++ [b]) ∧ Below base w w' := by
  obtain ⟨g, cap, cur, fr, rfl, h1, h2, h3, h4, h5, h6, h7⟩ := h
  have hnews : ∀ j u, [bcell b][j]? = some u → w.cell? (a.add j) = some u := by
    intro j u hu
    rcases j with _ | j
    · simp at hu; subst hu
      rw [show a.add 0 = a by obtain ⟨x, y, z⟩ := a; simp only at hn; subst hn; rw [Addr.add_lit]; rfl]
      exact hnew
    · simp at hu
  have h1' : ∀ u ∈ [bcell b], u.oneCell' = true := by intro u hu; simp at hu; subst hu; rfl
  have hcell : ∀ j, w.cell? ⟨g, j, none⟩ = cur[j]? := fun j => by
    have := cell_at_row h2 j
    rw [Addr.add_lit, Nat.zero_add] at this; exact this
  by_cases hr : l.length + 1 ≤ cap
  · have hrun := run_append_room_cells (P := P) w t ty e i ht hi g 0 l.length cap a 1 c [bcell b] (by simp [hsize]) hnews h1' hr
      (fun j hj => by
        obtain rfl : j = 0 := by simpa using hj
        rw [hsize, hcell]; simp; omega)
      (fun j hj => by
        obtain rfl : j = 0 := by simpa using hj
        rw [hsize]
        unfold World.frozen?
        rw [h2]
        rcases h3 with rfl | h3
        · simp
        · simp; omega)
    have hw : w.setCells g (0 + l.length * i.size) [bcell b] = w.setCell ⟨g, l.length, none⟩ (bcell b) := by rw [hsize]; simp [World.setCells]
    rw [hw] at hrun
    refine ⟨_, _, hrun, ⟨g, cap, cur.setIfInBounds l.length (bcell b), fr, by simp, h1, ?_, ?_, by simpa using hr, h5, by simpa using h6, ?_⟩, (Below.refl base w).setCell (by exact h1) _⟩
    · simp [World.setCell, Array.getElem?_modify, h2]
    · simpa using h3
    · have hlt : l.length < cur.toList.length := by simp; omega
      simp only [Array.toList_setIfInBounds, List.length_append, List.length_singleton, List.map_append, List.map_cons, List.map_nil]
      rw [List.take_succ_eq_append_getElem (by simpa using hlt), List.take_set_of_le (Nat.le_refl _), h7]
      simp
  · obtain ⟨v', w', hrun, r1, r2⟩ := run_append_arg_grows (P := P) w t ty e i (.int .u8 0) 1 1 ht hi hz hsize hby rfl (by decide) ⟨g, 0, none⟩ l.length cap (l.map bcell) (by simp)
      (fun j u hu => by
        rw [Addr.add_lit, Nat.zero_add, hcell]
        have hj : j < l.length := by simpa using (List.getElem?_eq_some_iff.1 hu).1
        rw [← h7, List.getElem?_take_of_lt hj, Array.getElem?_toList] at hu
        exact hu)
      a 1 c [bcell b] (by simp) hnews (by omega) (by unfold maxLen; omega) (by omega)
    refine ⟨v', w', hrun, ?_, ⟨r2.os, r2.tape, r2.output, r2.size, fun k hk => r2.block k (by omega) (by simp)⟩⟩
    rcases r1.2 with ⟨_, h0⟩ | ⟨g', cap', cur', rfl, hb, hg, hnc, hcm, hcs, htake⟩
    · omega
    · exact ⟨g', cap', cur', (0, 0), by simp, by omega, hg, .inl rfl, by simpa using hnc, hcm, by simpa using hcs, by simpa using htake⟩
theorem wpList_appM {ops : Array Oper} {rest : List Oper} {o : Oper} {a : Act} {Q : Exit → Act → World → Prop} (hgd : o.guard = none) (s x : Operand) (t : TypeId)
    (ho : o.op = .call { callee := .builtin .append, args := #[s, x], argTypes := #[t, t] })
    (base : Nat) (e : TypeId) (i : TypeInfo) (ht : P.underlying t = some (.slice e)) (hi : P.info? e = some i) (hz : i.zero = some (.int .u8 0)) (hsize : i.size = 1) (hby : i.bytes = 1)
    {v : Value} {l : List UInt8} (hs : a.eval s = v) (hown : RowM w base e v l) (hbase : base ≤ w.heap.size) (b : UInt8) (ad : Addr) (c : Nat) (hx : a.eval x = .slice (some ad) 1 c) (hnew : w.cell? ad = some (bcell b)) (hn : ad.spot = none) (hlen : l.length + 1 ≤ 140737488355328)
    (h : ∀ v' w', RowM w' base e v' (l ++ [b]) → Below base w w' → wpList P ops Q rest (a.put o.dst v') w') : wpList P ops Q (o :: rest) a w :=
  wpList_plain hgd fun _ hK => by
    obtain ⟨v', w', hr, h2, h3⟩ := RowM.app (P := P) (w := w) base e t o.type i ht hi hz hsize hby hown hbase b ad c hnew hn hlen
    unfold Oper.wp execOp
    simp only [ho, resolve, invoke, builtin, Sem.run_bind, Sem.run_pure, Result.andThen_ok, List.map_toArray, List.map_cons, List.map_nil, hs, hx, hr]
    exact hK _ _ (h v' w' h2 h3)
theorem wpList_convM {ops : Array Oper} {rest : List Oper} {o : Oper} {a : Act} {Q : Exit → Act → World → Prop} (hgd : o.guard = none) (src dst e : TypeId) (x : Operand) (ho : o.op = .convert src dst x)
    (s : List UInt8) (hx : a.eval x = sv s) {u : TypeDesc} (hs : P.underlying src = some u) (hd : P.underlying dst = some (.slice e)) (he : P.underlying e = some (.int .u8)) (hl : s.length ≤ maxLen)
    (h : ∀ v w', RowM w' w.heap.size e v s → Below w.heap.size w w' → wpList P ops Q rest (a.put o.dst v) w') : wpList P ops Q (o :: rest) a w :=
  wpList_plain hgd fun _ hK => by
    obtain ⟨v, w', hr, h2, h3⟩ := RowM.conv (P := P) w src dst e s hs hd he hl
    unfold Oper.wp execOp
    simp only [ho, hx, hr, Sem.run_bind, Sem.run_pure, Result.andThen_ok]
    exact hK _ _ (h v w' h2 h3)
end Go.Spec
