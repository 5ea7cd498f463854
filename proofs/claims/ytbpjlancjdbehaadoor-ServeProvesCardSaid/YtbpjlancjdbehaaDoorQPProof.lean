/- proofs.Proof, and its closure -/
import Derived.Test.YtbpjlancjdbehaaDoorQAnyOp
import Derived.Test.YtbpjlancjdbehaaDoorQShaLaid
import Derived.Test.YtbpjlancjdbehaaDoorQSlices
import Derived.Test.YtbpjlancjdbehaaDoorQTileMap
import Derived.Test.YtbpjlancjdbehaaDoorQTreeSplit

set_option maxRecDepth 100000
namespace Go.Spec
open Go.RowKit
variable {P : Program} {w : World}
theorem SlAt.dropR {size : Nat} {a : Option Addr} {n cap : Nat} {css : List (List Value)} (h : SlAt w size (.slice a n cap) css) (T E : TypeId) (hT : P.underlying T = some (.slice E)) (hE : (P.info? E).map (·.size) = some size) (ki : Int) (k : Nat) (hki : ki = k) (hk : k ≤ css.length) :
    ∃ a2 c2, (∀ w', (Instr.sliceAt T (.slice a n cap) (some (.int .i64 ki)) none none).run P w' = .ok (.slice a2 (n - k) c2) w') ∧ SlAt w size (.slice a2 (n - k) c2) (css.drop k) := by
  subst hki
  have hc : n ≤ cap ∧ css.length = n := by
    obtain ⟨a', cap', hv, hc, _⟩ := h
    injection hv with e1 e2 e3
    subst e3; exact ⟨by omega, e2.symm⟩
  cases hq : P.info? E with
  | none => simp [hq] at hE
  | some i =>
    have hi : i.size = size := by simpa [hq] using hE
    have hkn : k ≤ n := by omega
    have hb2 : (0 : Int) ≤ (k : Int) ∧ (k : Int) ≤ (n : Int) := by omega
    refine ⟨if cap = k then a else a.map (·.add (k * size)), cap - k, fun w' => ?_, ?_⟩
    · simp [Instr.sliceAt, Instr.slice, run_underlying hT, Instr.sliceBounds, Instr.sliceBound, asIntOf, Sem.run_bind, sizeOf, typeInfo, hq, hi, hb2, hkn]
    · by_cases hke : k = n
      · subst hke
        have e0 : css.drop k = [] := List.drop_eq_nil_of_le (by omega)
        rw [e0, Nat.sub_self]
        exact ⟨(if cap = k then a else a.map (·.add (k * size))), cap - k, by simp, by simp, by simp, by simp⟩
      · obtain ⟨b, o, rfl, hlt⟩ := h.addr (by omega)
        have hd := h.dropS k (by omega)
        rw [if_neg (by omega)]
        simpa [Addr.add_lit] using hd
end Go.Spec
namespace Go.Proofs.YtbpjlancjdbehaaDoor
open Go.RowKit Go.Spec
/-- the blocks below base are as they were, but for go -/
structure OutK (base go : Nat) (w w' : World) : Prop where
  os : w'.os = w.os
  tape : w'.tape = w.tape
  output : w'.output = w.output
  size : w.heap.size ≤ w'.heap.size
  block : ∀ k, k < base → k ≠ go → w'.heap[k]? = w.heap[k]?
theorem OutK.refl (base go : Nat) (w : World) : OutK base go w w := ⟨rfl, rfl, rfl, Nat.le_refl _, fun _ _ _ => rfl⟩
theorem OutK.trans {base go : Nat} {u v w : World} (h : OutK base go u v) (k : OutK base go v w) : OutK base go u w :=
  ⟨k.os.trans h.os, k.tape.trans h.tape, k.output.trans h.output, Nat.le_trans h.size k.size, fun i h1 h2 => (k.block i h1 h2).trans (h.block i h1 h2)⟩
theorem OutK.later {base go : Nat} {u v w : World} (h : OutK base go u v) (hb : Below v.heap.size v w) (hs : base ≤ u.heap.size) : OutK base go u w :=
  h.trans ⟨hb.os, hb.tape, hb.output, hb.size, fun k hk _ => hb.block k (by have := h.size; omega)⟩
theorem OutK.grown {base go : Nat} {u v w : World} {g : Option Nat} (h : OutK base go u v) (hg : v.grownBy w g) (hs : base ≤ u.heap.size) (hb : ∀ k, g = some k → base ≤ k) : OutK base go u w :=
  h.trans ⟨hg.os, hg.tape, hg.output, hg.size, fun k hk _ => hg.block k (by have := h.size; omega) (fun e => by have := hb k e.symm; omega)⟩
theorem OutK.setRow {base go : Nat} {u v : World} (h : OutK base go u v) (cs : Array Value) : OutK base go u (v.setRow go cs) :=
  h.trans ⟨rfl, rfl, rfl, by rw [setRow_size']; exact Nat.le_refl _, fun k _ hk => setRow_ne hk⟩
theorem OutK.below {base go B : Nat} {u v w : World} (h : OutK base go v w) (h0 : Below B u v) (hg : B ≤ go) (hb : B ≤ base) : Below B u w :=
  ⟨h.os.trans h0.os, h.tape.trans h0.tape, h.output.trans h0.output, Nat.le_trans h0.size h.size, fun k hk => (h.block k (by omega) (by omega)).trans (h0.block k hk)⟩
theorem OutK.blk {base go k : Nat} {u v : World} {cs : Array Value} {t : TypeId} (h : OutK base go u v) (hk : Blk u k cs t) (hb : k < base) (hne : k ≠ go) : Blk v k cs t := (h.block k hb hne).trans hk
/-- a variable that holds a slice has no byte -/
theorem go_far {w : World} {go k j : Nat} {a : Option Addr} {n c : Nat} {t : TypeId} {u : UInt8} (h : Blk w go #[.slice a n c] t) (hc : w.cell? ⟨k, j, none⟩ = some (bcell u)) : k ≠ go := fun e => by
  subst e
  have hq := h.cell j
  rw [hc] at hq
  match j, hq with
  | 0, q => simp [bcell] at q
  | j + 1, q => simp at q
theorem SlAt.outK {w w' : World} {go : Nat} {v : Value} {hs : List (List UInt8)} {a : Option Addr} {n c : Nat} {t : TypeId} (h : SlAt w 32 v (hcs hs)) (hg : Blk w go #[.slice a n c] t) (h2 : OutK w.heap.size go w w') : SlAt w' 32 v (hcs hs) := by
  have h32 := h.len32
  obtain ⟨a, cap, hv, hc, hs', hr⟩ := h
  refine ⟨a, cap, hv, hc, hs', fun i cs hi => ?_⟩
  obtain ⟨k, o, ha, hlt, hcell⟩ := hr i cs hi
  have hi' : i < hs.length := by
    have := (List.getElem?_eq_some_iff.1 hi).1
    rwa [hcs_length] at this
  have he : cs = hs[i].map bcell := by
    simp only [hcs, List.getElem?_map, List.getElem?_eq_getElem hi', Option.map_some] at hi
    injection hi with hi
    exact hi.symm
  subst he
  have hlen := h32 _ (List.getElem_mem hi')
  have h0 : (hs[i].map bcell)[0]? = some (bcell (hs[i][0]'(by omega))) := by
    rw [List.getElem?_map, List.getElem?_eq_getElem (by omega)]; rfl
  have n1 := go_far hg (hcell 0 _ h0)
  have hh := h2.block k hlt n1
  refine ⟨k, o, ha, Nat.lt_of_lt_of_le hlt h2.size, fun j u hj => ?_⟩
  have := hcell j u hj
  unfold World.cell? at this ⊢
  rw [hh]; exact this
theorem ShaG.outK {w w' : World} {go : Nat} {a : Option Addr} {n c : Nat} {ty : TypeId} (h : ShaG w) (hg : Blk w go #[.slice a n c] ty) (h2 : OutK w.heap.size go w w') : ShaG w' := by
  have key : ∀ (t : Nat) (ns : List Nat), 0 < ns.length → Tab w t ns → Tab w' t ns := by
    intro t ns hn ht
    have h0 := ht.at_ 0 hn
    have n1 : t ≠ go := by
      intro e
      rw [e, hg.cell 0] at h0; cases h0
    have hh := h2.block t ht.lt n1
    exact ⟨Nat.lt_of_lt_of_le ht.lt h2.size, fun i hi => by
      have := ht.at_ i hi
      unfold World.cell? at this ⊢
      rw [hh]; exact this⟩
  exact ⟨key _ _ (by decide) h.first, key _ _ (by decide) h.rounds⟩
/-- the closure -/
abbrev subFn (go gs : Nat) : Value := .func (.func 75) #[] #[.pointer (some ⟨go, 0, none⟩), .pointer (some ⟨gs, 0, none⟩)]
/-- what its variable holds -/
def OutV (w : World) (base go : Nat) (O : List (List UInt8)) : Prop := ∃ v, Blk w go #[v] 22 ∧ w.ownsRow base 29 32 v O.length (hflat O)
/-- the world at the start of the closure's calls -/
structure SubW (w0 : World) (go gs : Nat) : Prop where
  sh : ShaG w0
  out : Blk w0 go #[.slice none 0 0] 22
  fn : Blk w0 gs #[subFn go gs] 112
  ne : gs ≠ go
def SubAt (w0 : World) (go gs n : Nat) : Prop := ∀ (l : List (List UInt8)) (v : Value) (m : Nat) (known : Bool) (O : List (List UInt8)) (w : World), l.length ≤ n → 1 ≤ m → m ≤ l.length → l.length ≤ 1000000 → O.length + l.length ≤ 1000000 →
    SlAt w0 32 v (hcs l) → OutK w0.heap.size go w0 w → OutV w w0.heap.size go O →
    Calls Tryd.prog 75 #[v, .int .i64 (m : Int), .bool known, .pointer (some ⟨go, 0, none⟩), .pointer (some ⟨gs, 0, none⟩)] w fun e w' => e = .returned (.tuple #[]) ∧ OutK w0.heap.size go w0 w' ∧ OutV w' w0.heap.size go (O ++ subL l m known)
theorem OutV.later {w w' : World} {base go : Nat} {O : List (List UInt8)} (h : OutV w base go O) (hb : Below w.heap.size w w') : OutV w' base go O := by
  obtain ⟨v, h1, h2⟩ := h
  exact ⟨v, h1.later hb, h2.later hb⟩
/-- a root put behind what the variable holds: the worlds -/
theorem out_after {w0 w1 w5 : World} {go : Nat} {vo v' : Value} {O : List (List UInt8)} {R : List UInt8} (hlt : go < w0.heap.size) (hK : OutK w0.heap.size go w0 w1) (hvo : Blk w1 go #[vo] 22) (hown : w1.ownsRow w0.heap.size 29 32 vo O.length (hflat O))
    (hown' : w5.ownsRow w0.heap.size 29 32 v' (O.length + 1) (hflat O ++ R.map bcell)) (hgrow : (w1.alloc (.cells (hc R) 29)).grownBy w5 vo.ownBlock) :
    Blk w5 go #[vo] 22 ∧ OutK w0.heap.size go w0 (w5.setRow go #[v']) ∧ OutV (w5.setRow go #[v']) w0.heap.size go (O ++ [R]) := by
  have hvo5 : Blk w5 go #[vo] 22 := (hgrow.block go (by have := hK.size; simp; omega) (fun e => by have := (hown.lt _ e.symm).1; omega)).trans (hvo.alloc _)
  have hK5 := (hK.later ((Below.refl _ w1).alloc (Nat.le_refl _) (.cells (hc R) 29)) (Nat.le_refl _)).grown hgrow (Nat.le_refl _) (fun k hk => (hown.lt k hk).1)
  have hg : w5.grownBy (w5.setRow go #[v']) (some go) := ⟨rfl, rfl, rfl, by rw [setRow_size']; exact Nat.le_refl _, fun k _ hk => setRow_ne (fun e => hk (by rw [e]))⟩
  refine ⟨hvo5, hK5.setRow _, v', hvo5.setRow, ?_⟩
  rw [hflat_snoc, List.length_append, List.length_singleton]
  refine hown'.kept hg (.inr fun e => ?_)
  have := (hown'.lt _ e).1
  omega
theorem sub_knownA (w0 : World) (go gs : Nat) (l : List (List UInt8)) (v : Value) (O : List (List UInt8)) (w : World) (h1 : 1 ≤ l.length) (hl : l.length ≤ 1000000) (hS : SlAt w0 32 v (hcs l)) (hK : OutK w0.heap.size go w0 w) (hV : OutV w w0.heap.size go O) :
    Calls Tryd.prog 75 #[v, .int .i64 (l.length : Int), .bool true, .pointer (some ⟨go, 0, none⟩), .pointer (some ⟨gs, 0, none⟩)] w fun e w' => e = .returned (.tuple #[]) ∧ OutK w0.heap.size go w0 w' ∧ OutV w' w0.heap.size go (O ++ subL l l.length true) := by
  rw [sub_all l true h1, if_pos rfl, List.append_nil]
  obtain ⟨a, cap, rfl, hcap⟩ := hS.formH
  have HR := hid (And.intro hK hV)
  clear hS hK hV
  go_enter Tryd.func75, Tryd.ntmps75
  go_wp2
  refine bodyPost_ret (results_none rfl _ _ _) rfl ?_
  exact ⟨rfl, HR.out⟩
set_option maxHeartbeats 2000000 in
theorem sub_endA (w0 : World) (go gs : Nat) (l : List (List UInt8)) (v : Value) (O : List (List UInt8)) (w : World) (h1 : 1 ≤ l.length) (hl : l.length ≤ 1000000) (hO : O.length + l.length ≤ 1000000) (hW : SubW w0 go gs) (hS : SlAt w0 32 v (hcs l)) (hK : OutK w0.heap.size go w0 w) (hV : OutV w w0.heap.size go O) :
    Calls Tryd.prog 75 #[v, .int .i64 (l.length : Int), .bool false, .pointer (some ⟨go, 0, none⟩), .pointer (some ⟨gs, 0, none⟩)] w fun e w' => e = .returned (.tuple #[]) ∧ OutK w0.heap.size go w0 w' ∧ OutV w' w0.heap.size go (O ++ subL l l.length false) := by
  rw [sub_all l false h1, if_neg (by simp)]
  obtain ⟨i0, hi, hz0, hz1, hz2⟩ := info_parts Tryd.infoHash
  have hSw := SlAt.outK hS hW.out hK
  have hGw := ShaG.outK hW.sh hW.out hK
  have hR := rootL_len _ l (Nat.le_refl _) hS.len32
  obtain ⟨a, cap, rfl, hcap⟩ := hS.formH
  obtain ⟨vo, hvo, hown⟩ := hV
  have C1 := hid (fun w' (hb : Below w.heap.size w w') => root_any l (.slice a l.length cap) w' hl (hGw.later hb) (hSw.below hb (Nat.le_refl _)))
  have HK := hid hK; have Hvo := hid hvo; have Hown := hid hown; have HO := hid hO
  have Hlt := hid hW.out.lt
  have HRl := hid hR
  have H112 := hid (show (Tryd.prog.info? 22).map (·.size) = some 1 by kernel_rfl)
  generalize rootL l = R at *
  clear hS hSw hGw hK hvo hown hO hW hR
  go_enter Tryd.func75, Tryd.ntmps75
  go_upto_region 2 with fail
  refine wp_region_anyK 5 (fun w' => Blk w' go #[vo] 22) (by kernel_rfl) ?_
  intro x0 he0 hb0
  show wpAnyK _ _ _ _ _ _ 6 (Array.replicate 6 false) _ _
  have B0 := hid (Hvo.out.later hb0)
  refine wpAnyK_take (i := 0) (v := vo) rfl (by kernel_rfl) (by kernel_rfl) (by kernel_rfl) (fun _ _ _ h => h) (by kernel_rfl) (YieldsW.load_one (by kernel_rfl) 22 _ rfl ⟨go, 0, none⟩ (by kernel_rfl) (vo) _ (fun _ hw => Blk.cell1 hw) Tryd.underlying22 rfl) ?_
  (first | dsimp only [List.getElem_toArray, List.getElem_cons_succ, List.getElem_cons_zero] | dsimp (maxSteps := 10000000) only [List.getElem_toArray, List.getElem_cons_succ, List.getElem_cons_zero] | skip); (first | go_frame | simp (maxSteps := 10000000) only [Act.put, List.setIfInBounds_toArray, List.set_cons_succ, List.set_cons_zero] | skip)
  refine wpAnyK_take (i := 1) (v := .slice a l.length cap) rfl (by kernel_rfl) (by kernel_rfl) (by kernel_rfl) (fun _ _ _ h => h) (by kernel_rfl) (Or.inl ⟨by kernel_rfl, ?_⟩) ?_
  · intro w _
    go_simp
    try exact IntWalk.i64_in _ (by omega)
    try omega
  (first | dsimp only [List.getElem_toArray, List.getElem_cons_succ, List.getElem_cons_zero] | dsimp (maxSteps := 10000000) only [List.getElem_toArray, List.getElem_cons_succ, List.getElem_cons_zero] | skip); (first | go_frame | simp (maxSteps := 10000000) only [Act.put, List.setIfInBounds_toArray, List.set_cons_succ, List.set_cons_zero] | skip)
  refine wpAnyK_forced (i := 2) (by kernel_rfl) rfl (fun _ => B0.out) ?_
  (first | dsimp only [List.getElem_toArray, List.getElem_cons_succ, List.getElem_cons_zero] | dsimp (maxSteps := 10000000) only [List.getElem_toArray, List.getElem_cons_succ, List.getElem_cons_zero] | skip); (first | go_frame | simp (maxSteps := 10000000) only [Act.put, List.setIfInBounds_toArray, List.set_cons_succ, List.set_cons_zero] | skip)
  go_wp2_with (go_at_call 25; refine (C1.out _ hb0).mono ?_; rintro e x1 ⟨rfl, hbx⟩)
  show wpAnyK _ _ _ _ _ _ _ _ _ _
  (first | dsimp only [List.getElem_toArray, List.getElem_cons_succ, List.getElem_cons_zero] | dsimp (maxSteps := 10000000) only [List.getElem_toArray, List.getElem_cons_succ, List.getElem_cons_zero] | skip); (first | go_frame | simp (maxSteps := 10000000) only [Act.put, List.setIfInBounds_toArray, List.set_cons_succ, List.set_cons_zero] | skip)
  have HK1 := hid (HK.out.later (bth hb0 hbx) (Nat.le_refl _))
  have Hvo1 := hid (Hvo.out.later (bth hb0 hbx))
  have Hown1 := hid (Hown.out.later (bth hb0 hbx))
  have Hvo2 := hid (Hvo1.out.alloc (.cells (hc R) 29))
  clear hbx hb0 he0 C1 HK Hvo Hown B0
  refine wpAnyK_forced (i := 3) (by kernel_rfl) rfl (fun _ => Hvo1.out) ?_
  (first | dsimp only [List.getElem_toArray, List.getElem_cons_succ, List.getElem_cons_zero] | dsimp (maxSteps := 10000000) only [List.getElem_toArray, List.getElem_cons_succ, List.getElem_cons_zero] | skip); (first | go_frame | simp (maxSteps := 10000000) only [Act.put, List.setIfInBounds_toArray, List.set_cons_succ, List.set_cons_zero] | skip)
  refine wpList_buildSlice_one rfl 22 29 _ rfl 32 (hv zero32) (hv R) (hc R) rfl Tryd.underlying22 Tryd.infoHash2 rfl (by rw [hc_size, HRl.out]) (by decide) (by decide) ?_
  refine wpList_nil ?_
  show wpAnyK _ _ _ _ _ _ _ _ _ _
  (first | dsimp only [List.getElem_toArray, List.getElem_cons_succ, List.getElem_cons_zero] | dsimp (maxSteps := 10000000) only [List.getElem_toArray, List.getElem_cons_succ, List.getElem_cons_zero] | skip); (first | go_frame | simp (maxSteps := 10000000) only [Act.put, List.setIfInBounds_toArray, List.set_cons_succ, List.set_cons_zero] | skip)
  refine wpAnyK_forced (i := 4) (by kernel_rfl) rfl (fun _ => Hvo2.out) ?_
  (first | dsimp only [List.getElem_toArray, List.getElem_cons_succ, List.getElem_cons_zero] | dsimp (maxSteps := 10000000) only [List.getElem_toArray, List.getElem_cons_succ, List.getElem_cons_zero] | skip); (first | go_frame | simp (maxSteps := 10000000) only [Act.put, List.setIfInBounds_toArray, List.set_cons_succ, List.set_cons_zero] | skip)
  refine wpList_app rfl _ _ 22 rfl w0.heap.size 29 i0 (hv zero32) 32 32 Tryd.underlying22 hi hz0 hz1 hz2 rfl (by decide) vo O.length (hflat O) rfl (Hown1.out.alloc _) ⟨x1.heap.size, 0, none⟩ 1 1 (R.map bcell) rfl (by simp [HRl.out]) ?c3 (bcell_one R) (by have := HO.out; unfold maxLen; omega) (by have := HO.out; omega) (by have := HK1.out.size; simp; omega) ?_
  case c3 =>
    intro j u hj
    exact (Blk.new x1 (hc R) 29).cells j u (by rw [hc_toList]; exact hj)
  intro v' w5 hown' hgrow hat
  obtain ⟨hvo5, hK6, hV6⟩ := out_after (R := R) Hlt.out HK1.out Hvo1.out Hown1.out hown' hgrow
  obtain ⟨a', c', rfl, hc'⟩ := ownsRow_form hown'
  have Hvo5 := hid hvo5; have HK6 := hid hK6; have HV6 := hid hV6
  clear hown' hgrow hat hvo5 hK6 hV6 HK1 Hvo1 Hown1 Hvo2
  refine wpList_nil ?_
  show wpAnyK _ _ _ _ _ _ _ _ _ _
  (first | dsimp only [List.getElem_toArray, List.getElem_cons_succ, List.getElem_cons_zero] | dsimp (maxSteps := 10000000) only [List.getElem_toArray, List.getElem_cons_succ, List.getElem_cons_zero] | skip); (first | go_frame | simp (maxSteps := 10000000) only [Act.put, List.setIfInBounds_toArray, List.set_cons_succ, List.set_cons_zero] | skip)
  refine wpAnyK_forced (i := 5) (by kernel_rfl) rfl (fun _ => Hvo5.out) ?_
  (first | dsimp only [List.getElem_toArray, List.getElem_cons_succ, List.getElem_cons_zero] | dsimp (maxSteps := 10000000) only [List.getElem_toArray, List.getElem_cons_succ, List.getElem_cons_zero] | skip); (first | go_frame | simp (maxSteps := 10000000) only [Act.put, List.setIfInBounds_toArray, List.set_cons_succ, List.set_cons_zero] | skip)
  refine wpList_store_oneW rfl 22 _ _ rfl go rfl (.slice a' (O.length + 1) c') rfl vo 22 Hvo5.out H112.out rfl rfl _ rfl ?_
  refine wpList_nil ?_
  show wpAnyK _ _ _ _ _ _ _ _ _ _
  (first | dsimp only [List.getElem_toArray, List.getElem_cons_succ, List.getElem_cons_zero] | dsimp (maxSteps := 10000000) only [List.getElem_toArray, List.getElem_cons_succ, List.getElem_cons_zero] | skip); (first | go_frame | simp (maxSteps := 10000000) only [Act.put, List.setIfInBounds_toArray, List.set_cons_succ, List.set_cons_zero] | skip)
  refine wpAnyK_done (by kernel_rfl) (by kernel_rfl) ?_ _
  generalize w5.setRow go #[.slice a' (O.length + 1) c'] = w6 at *
  (first | dsimp only [List.getElem_toArray, List.getElem_cons_succ, List.getElem_cons_zero] | dsimp (maxSteps := 10000000) only [List.getElem_toArray, List.getElem_cons_succ, List.getElem_cons_zero] | skip); (first | go_frame | simp (maxSteps := 10000000) only [Act.put, List.setIfInBounds_toArray, List.set_cons_succ, List.set_cons_zero] | skip)
  go_wp2
  refine bodyPost_ret (results_none rfl _ _ _) rfl ?_
  exact ⟨rfl, HK6.out, HV6.out⟩
theorem sub_len1 : ∀ (n : Nat) (l : List (List UInt8)) (m : Nat) (known : Bool), l.length ≤ n → 1 ≤ m → m ≤ l.length → (subL l m known).length ≤ l.length
  | 0, l, m, _, h, h1, h2 => by omega
  | n + 1, l, m, known, h, h1, hm => by
    by_cases h0 : m = l.length
    · subst h0
      rw [sub_all l known h1]
      cases known with
      | true => simp
      | false => simpa using h1
    · obtain ⟨s1, s2⟩ := splitN_in l.length (by omega)
      rw [sub_many l m known h1 (by omega)]
      split
      · have := sub_len1 n (l.take (splitN l.length)) m known (by rw [List.length_take]; omega) h1 (by rw [List.length_take]; omega)
        rw [List.length_take] at this
        rw [List.length_append, List.length_singleton]; omega
      · have := sub_len1 n (l.drop (splitN l.length)) (m - splitN l.length) false (by rw [List.length_drop]; omega) (by omega) (by rw [List.length_drop]; omega)
        rw [List.length_drop] at this
        rw [List.length_append, List.length_singleton]; omega
set_option maxHeartbeats 4000000 in
theorem sub_left (w0 : World) (go gs n : Nat) (ih : SubAt w0 go gs n) (l : List (List UInt8)) (v : Value) (m : Nat) (known : Bool) (O : List (List UInt8)) (w : World) (hn : l.length ≤ n + 1) (h1 : 1 ≤ m) (hm : m < l.length) (hk : m ≤ splitN l.length) (hl : l.length ≤ 1000000) (hO : O.length + l.length ≤ 1000000) (hW : SubW w0 go gs) (hS : SlAt w0 32 v (hcs l)) (hK : OutK w0.heap.size go w0 w) (hV : OutV w w0.heap.size go O) :
    Calls Tryd.prog 75 #[v, .int .i64 (m : Int), .bool known, .pointer (some ⟨go, 0, none⟩), .pointer (some ⟨gs, 0, none⟩)] w fun e w' => e = .returned (.tuple #[]) ∧ OutK w0.heap.size go w0 w' ∧ OutV w' w0.heap.size go (O ++ subL l m known) := by
  rw [sub_many l m known h1 hm, if_pos hk, ← List.append_assoc]
  obtain ⟨i0, hi, hz0, hz1, hz2⟩ := info_parts Tryd.infoHash
  obtain ⟨s1, s2⟩ := splitN_in l.length (by omega)
  have Hsp := hid (fun w1 => split_big l.length w1 (by omega) (by omega))
  have hR := rootL_len _ (l.drop (splitN l.length)) (Nat.le_refl _) (fun x hx => hS.len32 x (List.mem_of_mem_drop hx))
  have hsl := sub_len1 l.length (l.take (splitN l.length)) m known (by rw [List.length_take]; omega) h1 (by rw [List.length_take]; omega)
  rw [List.length_take] at hsl
  obtain ⟨a, cap, rfl, hcap⟩ := hS.formH
  generalize hkk : splitN l.length = k at *
  obtain ⟨a2, c2, hr2, hS2⟩ := hS.takeR 22 29 Tryd.underlying22 Tryd.sizeHash (k : Int) k rfl (by rw [hcs_length]; omega)
  obtain ⟨a3, c3, hr3, hS3⟩ := hS.dropR 22 29 Tryd.underlying22 Tryd.sizeHash (k : Int) k rfl (by rw [hcs_length]; omega)
  rw [hcs_take] at hS2
  rw [hcs_drop] at hS3
  have hGw := fun w' (hk' : OutK w0.heap.size go w0 w') => ShaG.outK hW.sh hW.out hk'
  have hSw := fun w' (hk' : OutK w0.heap.size go w0 w') => SlAt.outK hS3 hW.out hk'
  have IH := hid (fun w' h2 h3 => ih (l.take k) (.slice a2 k c2) m known O w' (by rw [List.length_take]; omega) h1 (by rw [List.length_take]; omega) (by rw [List.length_take]; omega) (by rw [List.length_take]; omega) hS2 h2 h3)
  have C0 := hid (fun w' (hk' : OutK w0.heap.size go w0 w') => root_any (l.drop k) (.slice a3 (l.length - k) c3) w' (by rw [List.length_drop]; omega) (hGw w' hk') (hSw w' hk'))
  have hfn := fun w' (hk' : OutK w0.heap.size go w0 w') => hk'.blk hW.fn hW.fn.lt hW.ne
  have F0 := hid (fun q : Later w => Blk.cell1 ((hfn w hK).later (lat_below q)))
  have HK0 := hid hK; have HV0 := hid hV
  have Hlt := hid hW.out.lt
  have HO0 := hid hO
  have HRl := hid hR
  have H112 := hid (show (Tryd.prog.info? 22).map (·.size) = some 1 by kernel_rfl)
  generalize hO2 : O ++ subL (l.take k) m known = O2 at *
  have HO := hid (show O2.length + 1 ≤ 1000000 from by rw [← hO2, List.length_append]; omega)
  generalize rootL (l.drop k) = R at *
  have d0 : ((m : Int) == (l.length : Int)) = false := beq_eq_false_iff_ne.mpr (by omega)
  have d1 : decide (m ≤ k) = true := by simpa using hk
  clear hS hSw hGw hK hV hO hW hR hS2 hS3 ih hsl hkk hO2 hfn
  go_enter Tryd.func75, Tryd.ntmps75
  go_upto_region 5 with (go_at_call 45; refine (Hsp.out _).mono ?_; rintro e w1 ⟨rfl, rfl⟩)
  refine wp_region_later_tail 6 (by kernel_rfl) (by kernel_rfl) ?_
  simp only [List.take_succ_cons, List.take_zero, List.drop_succ_cons, List.drop_zero]
  repeat (first
    | (refine wpQuiet_load_one rfl 112 _ rfl ⟨gs, 0, none⟩ rfl (subFn go gs) _ (by rintro _ ⟨q, rfl⟩; exact F0.out q) Tryd.underlying112 rfl ?_; simp only [Act.put, List.setIfInBounds_toArray, List.set_cons_succ, List.set_cons_zero])
    | go_big_quiet_step (fail))
  refine wpQuiet_nil ?_
  rintro _ ⟨q1, rfl⟩
  have hb1 := lat_below q1
  generalize lat q1 = w1 at *
  have HK1 := hid (HK0.out.later hb1 (Nat.le_refl _))
  have HV1 := hid (HV0.out.later hb1)
  clear hb1 F0 HK0 HV0
  go_wp2_with (go_at_call 75; refine (IH.out _ HK1.out HV1.out).mono ?_; rintro e w2 ⟨rfl, hK2, hV2⟩)
  go_upto_region 6 with fail
  obtain ⟨vo, hvo, hown⟩ := hV2
  have HK := hid hK2; have Hvo := hid hvo; have Hown := hid hown
  have C1 := hid (fun w' (hb : Below w2.heap.size w2 w') => C0.out w' (hK2.later hb (Nat.le_refl _)))
  clear hK2 hvo hown HK1 HV1 IH C0
  refine wp_region_anyK 7 (fun w' => Blk w' go #[vo] 22) (by kernel_rfl) ?_
  intro x0 he0 hb0
  show wpAnyK _ _ _ _ _ _ 8 (Array.replicate 8 false) _ _
  have B0 := hid (Hvo.out.later hb0)
  refine wpAnyK_take (i := 0) (v := vo) rfl (by kernel_rfl) (by kernel_rfl) (by kernel_rfl) (fun _ _ _ h => h) (by kernel_rfl) (YieldsW.load_one (by kernel_rfl) 22 _ rfl ⟨go, 0, none⟩ (by kernel_rfl) (vo) _ (fun _ hw => Blk.cell1 hw) Tryd.underlying22 rfl) ?_
  (first | dsimp only [List.getElem_toArray, List.getElem_cons_succ, List.getElem_cons_zero] | dsimp (maxSteps := 10000000) only [List.getElem_toArray, List.getElem_cons_succ, List.getElem_cons_zero] | skip); (first | go_frame | simp (maxSteps := 10000000) only [Act.put, List.setIfInBounds_toArray, List.set_cons_succ, List.set_cons_zero] | skip)
  refine wpAnyK_take (i := 1) (v := .slice a l.length cap) rfl (by kernel_rfl) (by kernel_rfl) (by kernel_rfl) (fun _ _ _ h => h) (by kernel_rfl) (Or.inl ⟨by kernel_rfl, ?_⟩) ?_
  · intro w _
    go_simp
    try exact IntWalk.i64_in _ (by omega)
    try omega
  (first | dsimp only [List.getElem_toArray, List.getElem_cons_succ, List.getElem_cons_zero] | dsimp (maxSteps := 10000000) only [List.getElem_toArray, List.getElem_cons_succ, List.getElem_cons_zero] | skip); (first | go_frame | simp (maxSteps := 10000000) only [Act.put, List.setIfInBounds_toArray, List.set_cons_succ, List.set_cons_zero] | skip)
  refine wpAnyK_take (i := 2) (v := .int .i64 (k : Int)) rfl (by kernel_rfl) (by kernel_rfl) (by kernel_rfl) (fun _ _ _ h => h) (by kernel_rfl) (Or.inl ⟨by kernel_rfl, ?_⟩) ?_
  · intro w _
    go_simp
    try exact IntWalk.i64_in _ (by omega)
    try omega
  (first | dsimp only [List.getElem_toArray, List.getElem_cons_succ, List.getElem_cons_zero] | dsimp (maxSteps := 10000000) only [List.getElem_toArray, List.getElem_cons_succ, List.getElem_cons_zero] | skip); (first | go_frame | simp (maxSteps := 10000000) only [Act.put, List.setIfInBounds_toArray, List.set_cons_succ, List.set_cons_zero] | skip)
  refine wpAnyK_take (i := 3) (v := .slice a3 (l.length - k) c3) rfl (by kernel_rfl) (by kernel_rfl) (by kernel_rfl) (fun _ _ _ h => h) (by kernel_rfl) (Or.inl ⟨by kernel_rfl, ?_⟩) ?_
  · intro w _
    go_simp
    try exact IntWalk.i64_in _ (by omega)
    try omega
  (first | dsimp only [List.getElem_toArray, List.getElem_cons_succ, List.getElem_cons_zero] | dsimp (maxSteps := 10000000) only [List.getElem_toArray, List.getElem_cons_succ, List.getElem_cons_zero] | skip); (first | go_frame | simp (maxSteps := 10000000) only [Act.put, List.setIfInBounds_toArray, List.set_cons_succ, List.set_cons_zero] | skip)
  refine wpAnyK_forced (i := 4) (by kernel_rfl) rfl (fun _ => B0.out) ?_
  (first | dsimp only [List.getElem_toArray, List.getElem_cons_succ, List.getElem_cons_zero] | dsimp (maxSteps := 10000000) only [List.getElem_toArray, List.getElem_cons_succ, List.getElem_cons_zero] | skip); (first | go_frame | simp (maxSteps := 10000000) only [Act.put, List.setIfInBounds_toArray, List.set_cons_succ, List.set_cons_zero] | skip)
  go_wp2_with (go_at_call 25; refine (C1.out _ hb0).mono ?_; rintro e x1 ⟨rfl, hbx⟩)
  show wpAnyK _ _ _ _ _ _ _ _ _ _
  (first | dsimp only [List.getElem_toArray, List.getElem_cons_succ, List.getElem_cons_zero] | dsimp (maxSteps := 10000000) only [List.getElem_toArray, List.getElem_cons_succ, List.getElem_cons_zero] | skip); (first | go_frame | simp (maxSteps := 10000000) only [Act.put, List.setIfInBounds_toArray, List.set_cons_succ, List.set_cons_zero] | skip)
  have HK1 := hid (HK.out.later (bth hb0 hbx) (Nat.le_refl _))
  have Hvo1 := hid (Hvo.out.later (bth hb0 hbx))
  have Hown1 := hid (Hown.out.later (bth hb0 hbx))
  have Hvo2 := hid (Hvo1.out.alloc (.cells (hc R) 29))
  clear hbx hb0 he0 C1 HK Hvo Hown B0
  refine wpAnyK_forced (i := 5) (by kernel_rfl) rfl (fun _ => Hvo1.out) ?_
  (first | dsimp only [List.getElem_toArray, List.getElem_cons_succ, List.getElem_cons_zero] | dsimp (maxSteps := 10000000) only [List.getElem_toArray, List.getElem_cons_succ, List.getElem_cons_zero] | skip); (first | go_frame | simp (maxSteps := 10000000) only [Act.put, List.setIfInBounds_toArray, List.set_cons_succ, List.set_cons_zero] | skip)
  refine wpList_buildSlice_one rfl 22 29 _ rfl 32 (hv zero32) (hv R) (hc R) rfl Tryd.underlying22 Tryd.infoHash2 rfl (by rw [hc_size, HRl.out]) (by decide) (by decide) ?_
  refine wpList_nil ?_
  show wpAnyK _ _ _ _ _ _ _ _ _ _
  (first | dsimp only [List.getElem_toArray, List.getElem_cons_succ, List.getElem_cons_zero] | dsimp (maxSteps := 10000000) only [List.getElem_toArray, List.getElem_cons_succ, List.getElem_cons_zero] | skip); (first | go_frame | simp (maxSteps := 10000000) only [Act.put, List.setIfInBounds_toArray, List.set_cons_succ, List.set_cons_zero] | skip)
  refine wpAnyK_forced (i := 6) (by kernel_rfl) rfl (fun _ => Hvo2.out) ?_
  (first | dsimp only [List.getElem_toArray, List.getElem_cons_succ, List.getElem_cons_zero] | dsimp (maxSteps := 10000000) only [List.getElem_toArray, List.getElem_cons_succ, List.getElem_cons_zero] | skip); (first | go_frame | simp (maxSteps := 10000000) only [Act.put, List.setIfInBounds_toArray, List.set_cons_succ, List.set_cons_zero] | skip)
  refine wpList_app rfl _ _ 22 rfl w0.heap.size 29 i0 (hv zero32) 32 32 Tryd.underlying22 hi hz0 hz1 hz2 rfl (by decide) vo O2.length (hflat O2) rfl (Hown1.out.alloc _) ⟨x1.heap.size, 0, none⟩ 1 1 (R.map bcell) rfl (by simp [HRl.out]) ?c3 (bcell_one R) (by have := HO.out; unfold maxLen; omega) (by have := HO.out; omega) (by have := HK1.out.size; simp; omega) ?_
  case c3 =>
    intro j u hj
    exact (Blk.new x1 (hc R) 29).cells j u (by rw [hc_toList]; exact hj)
  intro v' w5 hown' hgrow hat
  obtain ⟨hvo5, hK6, hV6⟩ := out_after (R := R) Hlt.out HK1.out Hvo1.out Hown1.out hown' hgrow
  obtain ⟨a', c', rfl, hc'⟩ := ownsRow_form hown'
  have Hvo5 := hid hvo5; have HK6 := hid hK6; have HV6 := hid hV6
  clear hown' hgrow hat hvo5 hK6 hV6 HK1 Hvo1 Hown1 Hvo2
  refine wpList_nil ?_
  show wpAnyK _ _ _ _ _ _ _ _ _ _
  (first | dsimp only [List.getElem_toArray, List.getElem_cons_succ, List.getElem_cons_zero] | dsimp (maxSteps := 10000000) only [List.getElem_toArray, List.getElem_cons_succ, List.getElem_cons_zero] | skip); (first | go_frame | simp (maxSteps := 10000000) only [Act.put, List.setIfInBounds_toArray, List.set_cons_succ, List.set_cons_zero] | skip)
  refine wpAnyK_forced (i := 7) (by kernel_rfl) rfl (fun _ => Hvo5.out) ?_
  (first | dsimp only [List.getElem_toArray, List.getElem_cons_succ, List.getElem_cons_zero] | dsimp (maxSteps := 10000000) only [List.getElem_toArray, List.getElem_cons_succ, List.getElem_cons_zero] | skip); (first | go_frame | simp (maxSteps := 10000000) only [Act.put, List.setIfInBounds_toArray, List.set_cons_succ, List.set_cons_zero] | skip)
  refine wpList_store_oneW rfl 22 _ _ rfl go rfl (.slice a' (O2.length + 1) c') rfl vo 22 Hvo5.out H112.out rfl rfl _ rfl ?_
  refine wpList_nil ?_
  show wpAnyK _ _ _ _ _ _ _ _ _ _
  (first | dsimp only [List.getElem_toArray, List.getElem_cons_succ, List.getElem_cons_zero] | dsimp (maxSteps := 10000000) only [List.getElem_toArray, List.getElem_cons_succ, List.getElem_cons_zero] | skip); (first | go_frame | simp (maxSteps := 10000000) only [Act.put, List.setIfInBounds_toArray, List.set_cons_succ, List.set_cons_zero] | skip)
  refine wpAnyK_done (by kernel_rfl) (by kernel_rfl) ?_ _
  generalize w5.setRow go #[.slice a' (O2.length + 1) c'] = w6 at *
  (first | dsimp only [List.getElem_toArray, List.getElem_cons_succ, List.getElem_cons_zero] | dsimp (maxSteps := 10000000) only [List.getElem_toArray, List.getElem_cons_succ, List.getElem_cons_zero] | skip); (first | go_frame | simp (maxSteps := 10000000) only [Act.put, List.setIfInBounds_toArray, List.set_cons_succ, List.set_cons_zero] | skip)
  go_wp2
  refine bodyPost_ret (results_none rfl _ _ _) rfl ?_
  exact ⟨rfl, HK6.out, HV6.out⟩
set_option maxHeartbeats 4000000 in
theorem sub_right (w0 : World) (go gs n : Nat) (ih : SubAt w0 go gs n) (l : List (List UInt8)) (v : Value) (m : Nat) (known : Bool) (O : List (List UInt8)) (w : World) (hn : l.length ≤ n + 1) (h1 : 1 ≤ m) (hm : m < l.length) (hk : splitN l.length < m) (hl : l.length ≤ 1000000) (hO : O.length + l.length ≤ 1000000) (hW : SubW w0 go gs) (hS : SlAt w0 32 v (hcs l)) (hK : OutK w0.heap.size go w0 w) (hV : OutV w w0.heap.size go O) :
    Calls Tryd.prog 75 #[v, .int .i64 (m : Int), .bool known, .pointer (some ⟨go, 0, none⟩), .pointer (some ⟨gs, 0, none⟩)] w fun e w' => e = .returned (.tuple #[]) ∧ OutK w0.heap.size go w0 w' ∧ OutV w' w0.heap.size go (O ++ subL l m known) := by
  rw [sub_many l m known h1 hm, if_neg (by omega), ← List.append_assoc]
  obtain ⟨i0, hi, hz0, hz1, hz2⟩ := info_parts Tryd.infoHash
  obtain ⟨s1, s2⟩ := splitN_in l.length (by omega)
  have Hsp := hid (fun w1 => split_big l.length w1 (by omega) (by omega))
  have hR := rootL_len _ (l.take (splitN l.length)) (Nat.le_refl _) (fun x hx => hS.len32 x (List.mem_of_mem_take hx))
  have hsl := sub_len1 l.length (l.drop (splitN l.length)) (m - splitN l.length) false (by rw [List.length_drop]; omega) (by omega) (by rw [List.length_drop]; omega)
  rw [List.length_drop] at hsl
  obtain ⟨a, cap, rfl, hcap⟩ := hS.formH
  generalize hkk : splitN l.length = k at *
  obtain ⟨a2, c2, hr2, hS2⟩ := hS.takeR 22 29 Tryd.underlying22 Tryd.sizeHash (k : Int) k rfl (by rw [hcs_length]; omega)
  obtain ⟨a3, c3, hr3, hS3⟩ := hS.dropR 22 29 Tryd.underlying22 Tryd.sizeHash (k : Int) k rfl (by rw [hcs_length]; omega)
  rw [hcs_take] at hS2
  rw [hcs_drop] at hS3
  have hGw := fun w' (hk' : OutK w0.heap.size go w0 w') => ShaG.outK hW.sh hW.out hk'
  have hSw := fun w' (hk' : OutK w0.heap.size go w0 w') => SlAt.outK hS2 hW.out hk'
  have IH := hid (fun w' h2 h3 => ih (l.drop k) (.slice a3 (l.length - k) c3) (m - k) false O w' (by rw [List.length_drop]; omega) (by omega) (by rw [List.length_drop]; omega) (by rw [List.length_drop]; omega) (by rw [List.length_drop]; omega) hS3 h2 h3)
  have C0 := hid (fun w' (hk' : OutK w0.heap.size go w0 w') => root_any (l.take k) (.slice a2 k c2) w' (by rw [List.length_take]; omega) (hGw w' hk') (hSw w' hk'))
  have hfn := fun w' (hk' : OutK w0.heap.size go w0 w') => hk'.blk hW.fn hW.fn.lt hW.ne
  have F0 := hid (fun q : Later w => Blk.cell1 ((hfn w hK).later (lat_below q)))
  have HK0 := hid hK; have HV0 := hid hV
  have Hlt := hid hW.out.lt
  have HO0 := hid hO
  have HRl := hid hR
  have H112 := hid (show (Tryd.prog.info? 22).map (·.size) = some 1 by kernel_rfl)
  generalize hO2 : O ++ subL (l.drop k) (m - k) false = O2 at *
  have HO := hid (show O2.length + 1 ≤ 1000000 from by rw [← hO2, List.length_append]; omega)
  generalize rootL (l.take k) = R at *
  have d0 : ((m : Int) == (l.length : Int)) = false := beq_eq_false_iff_ne.mpr (by omega)
  have d1 : decide (m ≤ k) = false := by simp; omega
  have esub : (m : Int) - (k : Int) = ((m - k : Nat) : Int) := by omega
  generalize m - k = mk at *
  clear hS hSw hGw hK hV hO hW hR hS2 hS3 ih hsl hkk hO2 hfn
  go_enter Tryd.func75, Tryd.ntmps75
  go_upto_region 7 with (go_at_call 45; refine (Hsp.out _).mono ?_; rintro e w1 ⟨rfl, rfl⟩)
  refine wp_region_later_tail 7 (by kernel_rfl) (by kernel_rfl) ?_
  simp only [List.take_succ_cons, List.take_zero, List.drop_succ_cons, List.drop_zero]
  repeat (first
    | (refine wpQuiet_load_one rfl 112 _ rfl ⟨gs, 0, none⟩ rfl (subFn go gs) _ (by rintro _ ⟨q, rfl⟩; exact F0.out q) Tryd.underlying112 rfl ?_; simp only [Act.put, List.setIfInBounds_toArray, List.set_cons_succ, List.set_cons_zero])
    | go_big_quiet_step (fail))
  refine wpQuiet_nil ?_
  rintro _ ⟨q1, rfl⟩
  have hb1 := lat_below q1
  generalize lat q1 = w1 at *
  have HK1 := hid (HK0.out.later hb1 (Nat.le_refl _))
  have HV1 := hid (HV0.out.later hb1)
  clear hb1 F0 HK0 HV0
  go_wp2_with (go_at_call 75; refine (IH.out _ HK1.out HV1.out).mono ?_; rintro e w2 ⟨rfl, hK2, hV2⟩)
  go_upto_region 8 with fail
  obtain ⟨vo, hvo, hown⟩ := hV2
  have HK := hid hK2; have Hvo := hid hvo; have Hown := hid hown
  have C1 := hid (fun w' (hb : Below w2.heap.size w2 w') => C0.out w' (hK2.later hb (Nat.le_refl _)))
  clear hK2 hvo hown HK1 HV1 IH C0
  refine wp_region_anyK 7 (fun w' => Blk w' go #[vo] 22) (by kernel_rfl) ?_
  intro x0 he0 hb0
  show wpAnyK _ _ _ _ _ _ 8 (Array.replicate 8 false) _ _
  have B0 := hid (Hvo.out.later hb0)
  refine wpAnyK_take (i := 0) (v := vo) rfl (by kernel_rfl) (by kernel_rfl) (by kernel_rfl) (fun _ _ _ h => h) (by kernel_rfl) (YieldsW.load_one (by kernel_rfl) 22 _ rfl ⟨go, 0, none⟩ (by kernel_rfl) (vo) _ (fun _ hw => Blk.cell1 hw) Tryd.underlying22 rfl) ?_
  (first | dsimp only [List.getElem_toArray, List.getElem_cons_succ, List.getElem_cons_zero] | dsimp (maxSteps := 10000000) only [List.getElem_toArray, List.getElem_cons_succ, List.getElem_cons_zero] | skip); (first | go_frame | simp (maxSteps := 10000000) only [Act.put, List.setIfInBounds_toArray, List.set_cons_succ, List.set_cons_zero] | skip)
  refine wpAnyK_take (i := 1) (v := .slice a l.length cap) rfl (by kernel_rfl) (by kernel_rfl) (by kernel_rfl) (fun _ _ _ h => h) (by kernel_rfl) (Or.inl ⟨by kernel_rfl, ?_⟩) ?_
  · intro w _
    go_simp
    try exact IntWalk.i64_in _ (by omega)
    try omega
  (first | dsimp only [List.getElem_toArray, List.getElem_cons_succ, List.getElem_cons_zero] | dsimp (maxSteps := 10000000) only [List.getElem_toArray, List.getElem_cons_succ, List.getElem_cons_zero] | skip); (first | go_frame | simp (maxSteps := 10000000) only [Act.put, List.setIfInBounds_toArray, List.set_cons_succ, List.set_cons_zero] | skip)
  refine wpAnyK_take (i := 2) (v := .int .i64 (k : Int)) rfl (by kernel_rfl) (by kernel_rfl) (by kernel_rfl) (fun _ _ _ h => h) (by kernel_rfl) (Or.inl ⟨by kernel_rfl, ?_⟩) ?_
  · intro w _
    go_simp
    try exact IntWalk.i64_in _ (by omega)
    try omega
  (first | dsimp only [List.getElem_toArray, List.getElem_cons_succ, List.getElem_cons_zero] | dsimp (maxSteps := 10000000) only [List.getElem_toArray, List.getElem_cons_succ, List.getElem_cons_zero] | skip); (first | go_frame | simp (maxSteps := 10000000) only [Act.put, List.setIfInBounds_toArray, List.set_cons_succ, List.set_cons_zero] | skip)
  refine wpAnyK_take (i := 3) (v := .slice a2 k c2) rfl (by kernel_rfl) (by kernel_rfl) (by kernel_rfl) (fun _ _ _ h => h) (by kernel_rfl) (Or.inl ⟨by kernel_rfl, ?_⟩) ?_
  · intro w _
    go_simp
    try exact IntWalk.i64_in _ (by omega)
    try omega
  (first | dsimp only [List.getElem_toArray, List.getElem_cons_succ, List.getElem_cons_zero] | dsimp (maxSteps := 10000000) only [List.getElem_toArray, List.getElem_cons_succ, List.getElem_cons_zero] | skip); (first | go_frame | simp (maxSteps := 10000000) only [Act.put, List.setIfInBounds_toArray, List.set_cons_succ, List.set_cons_zero] | skip)
  refine wpAnyK_forced (i := 4) (by kernel_rfl) rfl (fun _ => B0.out) ?_
  (first | dsimp only [List.getElem_toArray, List.getElem_cons_succ, List.getElem_cons_zero] | dsimp (maxSteps := 10000000) only [List.getElem_toArray, List.getElem_cons_succ, List.getElem_cons_zero] | skip); (first | go_frame | simp (maxSteps := 10000000) only [Act.put, List.setIfInBounds_toArray, List.set_cons_succ, List.set_cons_zero] | skip)
  go_wp2_with (go_at_call 25; refine (C1.out _ hb0).mono ?_; rintro e x1 ⟨rfl, hbx⟩)
  show wpAnyK _ _ _ _ _ _ _ _ _ _
  (first | dsimp only [List.getElem_toArray, List.getElem_cons_succ, List.getElem_cons_zero] | dsimp (maxSteps := 10000000) only [List.getElem_toArray, List.getElem_cons_succ, List.getElem_cons_zero] | skip); (first | go_frame | simp (maxSteps := 10000000) only [Act.put, List.setIfInBounds_toArray, List.set_cons_succ, List.set_cons_zero] | skip)
  have HK1 := hid (HK.out.later (bth hb0 hbx) (Nat.le_refl _))
  have Hvo1 := hid (Hvo.out.later (bth hb0 hbx))
  have Hown1 := hid (Hown.out.later (bth hb0 hbx))
  have Hvo2 := hid (Hvo1.out.alloc (.cells (hc R) 29))
  clear hbx hb0 he0 C1 HK Hvo Hown B0
  refine wpAnyK_forced (i := 5) (by kernel_rfl) rfl (fun _ => Hvo1.out) ?_
  (first | dsimp only [List.getElem_toArray, List.getElem_cons_succ, List.getElem_cons_zero] | dsimp (maxSteps := 10000000) only [List.getElem_toArray, List.getElem_cons_succ, List.getElem_cons_zero] | skip); (first | go_frame | simp (maxSteps := 10000000) only [Act.put, List.setIfInBounds_toArray, List.set_cons_succ, List.set_cons_zero] | skip)
  refine wpList_buildSlice_one rfl 22 29 _ rfl 32 (hv zero32) (hv R) (hc R) rfl Tryd.underlying22 Tryd.infoHash2 rfl (by rw [hc_size, HRl.out]) (by decide) (by decide) ?_
  refine wpList_nil ?_
  show wpAnyK _ _ _ _ _ _ _ _ _ _
  (first | dsimp only [List.getElem_toArray, List.getElem_cons_succ, List.getElem_cons_zero] | dsimp (maxSteps := 10000000) only [List.getElem_toArray, List.getElem_cons_succ, List.getElem_cons_zero] | skip); (first | go_frame | simp (maxSteps := 10000000) only [Act.put, List.setIfInBounds_toArray, List.set_cons_succ, List.set_cons_zero] | skip)
  refine wpAnyK_forced (i := 6) (by kernel_rfl) rfl (fun _ => Hvo2.out) ?_
  (first | dsimp only [List.getElem_toArray, List.getElem_cons_succ, List.getElem_cons_zero] | dsimp (maxSteps := 10000000) only [List.getElem_toArray, List.getElem_cons_succ, List.getElem_cons_zero] | skip); (first | go_frame | simp (maxSteps := 10000000) only [Act.put, List.setIfInBounds_toArray, List.set_cons_succ, List.set_cons_zero] | skip)
  refine wpList_app rfl _ _ 22 rfl w0.heap.size 29 i0 (hv zero32) 32 32 Tryd.underlying22 hi hz0 hz1 hz2 rfl (by decide) vo O2.length (hflat O2) rfl (Hown1.out.alloc _) ⟨x1.heap.size, 0, none⟩ 1 1 (R.map bcell) rfl (by simp [HRl.out]) ?c3 (bcell_one R) (by have := HO.out; unfold maxLen; omega) (by have := HO.out; omega) (by have := HK1.out.size; simp; omega) ?_
  case c3 =>
    intro j u hj
    exact (Blk.new x1 (hc R) 29).cells j u (by rw [hc_toList]; exact hj)
  intro v' w5 hown' hgrow hat
  obtain ⟨hvo5, hK6, hV6⟩ := out_after (R := R) Hlt.out HK1.out Hvo1.out Hown1.out hown' hgrow
  obtain ⟨a', c', rfl, hc'⟩ := ownsRow_form hown'
  have Hvo5 := hid hvo5; have HK6 := hid hK6; have HV6 := hid hV6
  clear hown' hgrow hat hvo5 hK6 hV6 HK1 Hvo1 Hown1 Hvo2
  refine wpList_nil ?_
  show wpAnyK _ _ _ _ _ _ _ _ _ _
  (first | dsimp only [List.getElem_toArray, List.getElem_cons_succ, List.getElem_cons_zero] | dsimp (maxSteps := 10000000) only [List.getElem_toArray, List.getElem_cons_succ, List.getElem_cons_zero] | skip); (first | go_frame | simp (maxSteps := 10000000) only [Act.put, List.setIfInBounds_toArray, List.set_cons_succ, List.set_cons_zero] | skip)
  refine wpAnyK_forced (i := 7) (by kernel_rfl) rfl (fun _ => Hvo5.out) ?_
  (first | dsimp only [List.getElem_toArray, List.getElem_cons_succ, List.getElem_cons_zero] | dsimp (maxSteps := 10000000) only [List.getElem_toArray, List.getElem_cons_succ, List.getElem_cons_zero] | skip); (first | go_frame | simp (maxSteps := 10000000) only [Act.put, List.setIfInBounds_toArray, List.set_cons_succ, List.set_cons_zero] | skip)
  refine wpList_store_oneW rfl 22 _ _ rfl go rfl (.slice a' (O2.length + 1) c') rfl vo 22 Hvo5.out H112.out rfl rfl _ rfl ?_
  refine wpList_nil ?_
  show wpAnyK _ _ _ _ _ _ _ _ _ _
  (first | dsimp only [List.getElem_toArray, List.getElem_cons_succ, List.getElem_cons_zero] | dsimp (maxSteps := 10000000) only [List.getElem_toArray, List.getElem_cons_succ, List.getElem_cons_zero] | skip); (first | go_frame | simp (maxSteps := 10000000) only [Act.put, List.setIfInBounds_toArray, List.set_cons_succ, List.set_cons_zero] | skip)
  refine wpAnyK_done (by kernel_rfl) (by kernel_rfl) ?_ _
  generalize w5.setRow go #[.slice a' (O2.length + 1) c'] = w6 at *
  (first | dsimp only [List.getElem_toArray, List.getElem_cons_succ, List.getElem_cons_zero] | dsimp (maxSteps := 10000000) only [List.getElem_toArray, List.getElem_cons_succ, List.getElem_cons_zero] | skip); (first | go_frame | simp (maxSteps := 10000000) only [Act.put, List.setIfInBounds_toArray, List.set_cons_succ, List.set_cons_zero] | skip)
  go_wp2
  go_end0
  exact ⟨rfl, HK6.out, HV6.out⟩
theorem sub_at (w0 : World) (go gs : Nat) (hW : SubW w0 go gs) (n : Nat) : SubAt w0 go gs n := by
  induction n with
  | zero => intro l v m known O w h0 h1 h2; omega
  | succ n ih =>
    intro l v m known O w hn h1 hm hl hO hS hK hV
    by_cases h0 : m = l.length
    · subst h0
      cases known with
      | true => exact sub_knownA w0 go gs l v O w h1 hl hS hK hV
      | false => exact sub_endA w0 go gs l v O w h1 hl hO hW hS hK hV
    · by_cases hk : m ≤ splitN l.length
      · exact sub_left w0 go gs n ih l v m known O w hn h1 (by omega) hk hl hO hW hS hK hV
      · exact sub_right w0 go gs n ih l v m known O w hn h1 (by omega) (by omega) hl hO hW hS hK hV
end Go.Proofs.YtbpjlancjdbehaaDoor
