/- proofs.Check of a proof that holds -/
import Derived.Test.YtbpjlancjdbehaaDoorQAnyOp
import Derived.Test.YtbpjlancjdbehaaDoorQPNext
import Derived.Test.YtbpjlancjdbehaaDoorQShaLaid
import Derived.Test.YtbpjlancjdbehaaDoorQSlices
import Derived.Deep.DeepCutAuto
import Derived.WalkMore
set_option maxRecDepth 100000
namespace Go.Proofs.YtbpjlancjdbehaaDoor
open Go.RowKit Go.Spec
/-- the proof that the first m leaves are the beginning of all -/
def proofL (l : List (List UInt8)) (m : Nat) : List (List UInt8) := if m = 0 ∨ m = l.length then [] else subL l m true
theorem SlAt.nilH (w : World) : SlAt w 32 (.slice none 0 0) (hcs []) := ⟨none, 0, rfl, Nat.le_refl _, fun _ h => by simp [hcs] at h, fun i cs h => by simp [hcs] at h⟩
theorem holds_true (w : World) : Calls Tryd.prog 51 #[.bool true] w fun e w' => e = .returned (.int .i64 0) ∧ w = w' := by
  go_enter Tryd.func51, Tryd.ntmps51
  go_wp2
  go_ret
  exact ⟨rfl, rfl⟩
theorem holds_later (w : World) : Calls Tryd.prog 51 #[.bool true] w fun e w' => e = .returned (.int .i64 0) ∧ Below w.heap.size w w' :=
  (holds_true w).mono fun _ _ h => ⟨h.1, h.2 ▸ Below.refl _ _⟩
/-- what lives while a proof is checked -/
structure Ck (w : World) (O N : List UInt8) (p : List (List UInt8)) (w' : World) : Prop where
  bo : Blk w' w.heap.size (hc O) 29
  bn : Blk w' (w.heap.size + 1) (hc N) 29
  pr : ∃ v, Blk w' (w.heap.size + 2) #[v] 22 ∧ SlAt w 32 v (hcs p)
  be : Below w.heap.size w w'
theorem Ck.later {w w' w'' : World} {O N : List UInt8} {p : List (List UInt8)} (h : Ck w O N p w') (hb : Below w'.heap.size w' w'') : Ck w O N p w'' := by
  obtain ⟨v, h1, h2⟩ := h.pr
  exact ⟨h.bo.later hb, h.bn.later hb, ⟨v, h1.later hb, h2⟩, bth h.be hb⟩
theorem Ck.next {w w' w'' : World} {O N : List UInt8} {p q : List (List UInt8)} (h : Ck w O N p w') (hb : Two (w.heap.size + 2) (w.heap.size + 2) w' w'') (hp : ∃ v, Blk w'' (w.heap.size + 2) #[v] 22 ∧ SlAt w 32 v (hcs q)) : Ck w O N q w'' :=
  ⟨hb.blk h.bo (by omega) (by omega), hb.blk h.bn (by omega) (by omega), hp, h.be.trans (hb.below h.be.size (by omega) (by omega))⟩
theorem Ck.start (w : World) (O N : List UInt8) (p : List (List UInt8)) (v : Value) (hv : SlAt w 32 v (hcs p)) : Ck w O N p (((w.alloc (.cells (hc O) 29)).alloc (.cells (hc N) 29)).alloc (.cells #[v] 22)) := by
  have hb : Below w.heap.size w (((w.alloc (.cells (hc O) 29)).alloc (.cells (hc N) 29)).alloc (.cells #[v] 22)) := (((Below.refl _ w).alloc (Nat.le_refl _) _).alloc (by simp) _).alloc (by simp; omega) _
  exact ⟨((Blk.new _ _ _).alloc _).alloc _, (Blk.new' _ _ _ (by simp)).alloc _, ⟨v, Blk.new' _ _ _ (by simp), hv⟩, hb⟩
/-- the two hashes that are climbed with -/
structure Ab (w : World) (ga gb : Nat) (A B : List UInt8) (w' : World) : Prop where
  ne : ga ≠ gb
  la : w.heap.size + 3 ≤ ga
  lb : w.heap.size + 3 ≤ gb
  a : Blk w' ga (hc A) 29
  b : Blk w' gb (hc B) 29
theorem Ab.later {w w' w'' : World} {ga gb : Nat} {A B : List UInt8} (h : Ab w ga gb A B w') (hb : Below w'.heap.size w' w'') : Ab w ga gb A B w'' :=
  ⟨h.ne, h.la, h.lb, h.a.later hb, h.b.later hb⟩
theorem Ab.next {w w' w'' : World} {ga gb : Nat} {A B : List UInt8} (h : Ab w ga gb A B w') (hb : Two (w.heap.size + 2) (w.heap.size + 2) w' w'') : Ab w ga gb A B w'' :=
  ⟨h.ne, h.la, h.lb, hb.blk h.a (by have := h.la; omega) (by have := h.la; omega), hb.blk h.b (by have := h.lb; omega) (by have := h.lb; omega)⟩
theorem Ck.set {w w' : World} {O N : List UInt8} {p : List (List UInt8)} (h : Ck w O N p w') {g : Nat} (hg : w.heap.size + 3 ≤ g) (cs : Array Value) : Ck w O N p (w'.setRow g cs) := by
  obtain ⟨v, h1, h2⟩ := h.pr
  exact ⟨h.bo.setRow_ne (by omega), h.bn.setRow_ne (by omega), ⟨v, h1.setRow_ne (by omega), h2⟩, h.be.setRow (by omega) _⟩
theorem Ab.setA {w w' : World} {ga gb : Nat} {A B A' : List UInt8} (h : Ab w ga gb A B w') : Ab w ga gb A' B (w'.setRow ga (hc A')) :=
  ⟨h.ne, h.la, h.lb, h.a.setRow, h.b.setRow_ne h.ne.symm⟩
theorem Ab.setB {w w' : World} {ga gb : Nat} {A B B' : List UInt8} (h : Ab w ga gb A B w') : Ab w ga gb A B' (w'.setRow gb (hc B')) :=
  ⟨h.ne, h.la, h.lb, h.a.setRow_ne h.ne, h.b.setRow⟩
set_option maxHeartbeats 1000000 in
theorem pcheck_zero (n : Nat) (O N : List UInt8) (v : Value) (w : World) (hn : n ≤ 4096) (hO : O.length = 32) (hN : N.length = 32) (he : O = rootL []) (h0 : n = 0 → N = O) (hS : SlAt w 32 v (hcs [])) (hG : ShaG w) :
    Calls Tryd.prog 27 #[.int .i64 0, .int .i64 (n : Int), hv O, hv N, v] w fun e w' => e = .returned (.int .i64 0) ∧ Below w.heap.size w w' := by
  have HC := hid (Ck.start w O N [] v hS)
  obtain ⟨a0, cap0, rfl, _⟩ := hS.formH
  generalize hgen : ((w.alloc (.cells (hc O) 29)).alloc (.cells (hc N) 29)).alloc (.cells #[.slice a0 ([] : List (List UInt8)).length cap0] 22) = w0 at HC
  have Hgen := hid hgen
  have hGw := hG.later HC.out.be
  obtain ⟨v', hp, hp2⟩ := HC.out.pr
  obtain ⟨a, cap, rfl, _⟩ := hp2.formH
  have RT := hid (fun q : Later w0 => root_any [] (.slice none 0 0) (lat q) (by decide) (hGw.later (lat_below q)) (SlAt.nilH _))
  rw [← he] at RT
  have d1 : decide ((n : Int) < 0) = false := by simp
  have d2 : decide ((4096 : Int) < (n : Int)) = false := by simp; omega
  have SO := hid (show (Tryd.prog.info? 29).map (·.size) = some O.length by rw [hO]; exact Tryd.sizeHash)
  have SN := hid (show (Tryd.prog.info? 29).map (·.size) = some N.length by rw [hN]; exact Tryd.sizeHash)
  have hs3 := Tryd.sizeHash
  have hs5 := Tryd.sizeU8
  have hge := Tryd.guardHash3
  have KP := hid (fun q : Later w0 => Blk.cell1 (hp.later (lat_below q)))
  have KO := hid (fun q : Later w0 => show ∀ j z, (O.map bcell)[j]? = some z → (lat q).cell? ((⟨w.heap.size, 0, none⟩ : Addr).add j) = some z from fun j z hz => (HC.out.bo.later (lat_below q)).cells j z (by rw [hc_toList]; exact hz))
  have KN := hid (fun q : Later w0 => show ∀ j z, (N.map bcell)[j]? = some z → (lat q).cell? ((⟨w.heap.size + 1, 0, none⟩ : Addr).add j) = some z from fun j z hz => (HC.out.bn.later (lat_below q)).cells j z (by rw [hc_toList]; exact hz))
  have CH := hid (fun q : Later w0 => holds_later (lat q))
  clear hGw hS hG hgen he hp hp2
  by_cases hz : n = 0
  · have hNO := h0 hz
    subst hz
    subst hNO
    go_enter Tryd.func27, Tryd.ntmps27
    go_upto_region 1 with fail
    show Code.wp _ _ _ _ (((w.alloc (.cells (hc N) 29)).alloc (.cells (hc N) 29)).alloc (.cells #[.slice a0 ([] : List (List UInt8)).length cap0] 22))
    rw [Hgen.out]
    go_wp2_with fail
    refine wp_region_later (by kernel_rfl) (by kernel_rfl) ?_
    repeat (first
      | go_big_quiet_skip
      | (refine wpQuiet_load_one rfl 22 _ rfl ⟨w.heap.size + 2, 0, none⟩ rfl (.slice a ([] : List (List UInt8)).length cap) _ (by rintro _ ⟨q, rfl⟩; exact KP.out q) Tryd.underlying22 rfl ?_; simp only [Act.put, List.setIfInBounds_toArray, List.set_cons_succ, List.set_cons_zero])
      | (refine wpQuiet_load_hcG rfl 29 _ rfl ⟨w.heap.size, 0, none⟩ rfl _ _ (by rintro _ ⟨q, rfl⟩; exact KO.out q) Tryd.underlying29 rfl SO.out ?_; simp only [Act.put, List.setIfInBounds_toArray, List.set_cons_succ, List.set_cons_zero])
      | (refine wpQuiet_load_hcG rfl 29 _ rfl ⟨w.heap.size + 1, 0, none⟩ rfl _ _ (by rintro _ ⟨q, rfl⟩; exact KN.out q) Tryd.underlying29 rfl SN.out ?_; simp only [Act.put, List.setIfInBounds_toArray, List.set_cons_succ, List.set_cons_zero])
      | go_big_quiet_step ((first | (go_at_call 25; with_reducible exact calls_later (RT.out _)) | (go_at_call 51; with_reducible exact calls_later (CH.out _)))))
    refine wpQuiet_nil ?_
    rintro _ ⟨q1, rfl⟩
    have hb1 := lat_below q1
    generalize lat q1 = w1 at *
    go_wp2
    try rw [Exit.noGoto_ret]
    go_ret
    exact ⟨rfl, bth HC.out.be hb1⟩
  · have d3 : decide ((0 : Int) < (n : Int)) = true := by simp; omega
    have d4 : decide (0 < n) = true := by simp; omega
    go_enter Tryd.func27, Tryd.ntmps27
    go_upto_region 1 with fail
    show Code.wp _ _ _ _ (((w.alloc (.cells (hc O) 29)).alloc (.cells (hc N) 29)).alloc (.cells #[.slice a0 ([] : List (List UInt8)).length cap0] 22))
    rw [Hgen.out]
    go_wp2_with fail
    refine wp_region_later (by kernel_rfl) (by kernel_rfl) ?_
    repeat (first
      | go_big_quiet_skip
      | (refine wpQuiet_load_one rfl 22 _ rfl ⟨w.heap.size + 2, 0, none⟩ rfl (.slice a ([] : List (List UInt8)).length cap) _ (by rintro _ ⟨q, rfl⟩; exact KP.out q) Tryd.underlying22 rfl ?_; simp only [Act.put, List.setIfInBounds_toArray, List.set_cons_succ, List.set_cons_zero])
      | (refine wpQuiet_load_hcG rfl 29 _ rfl ⟨w.heap.size, 0, none⟩ rfl _ _ (by rintro _ ⟨q, rfl⟩; exact KO.out q) Tryd.underlying29 rfl SO.out ?_; simp only [Act.put, List.setIfInBounds_toArray, List.set_cons_succ, List.set_cons_zero])
      | (refine wpQuiet_load_hcG rfl 29 _ rfl ⟨w.heap.size + 1, 0, none⟩ rfl _ _ (by rintro _ ⟨q, rfl⟩; exact KN.out q) Tryd.underlying29 rfl SN.out ?_; simp only [Act.put, List.setIfInBounds_toArray, List.set_cons_succ, List.set_cons_zero])
      | go_big_quiet_step ((first | (go_at_call 25; with_reducible exact calls_later (RT.out _)) | (go_at_call 51; with_reducible exact calls_later (CH.out _)))))
    refine wpQuiet_nil ?_
    rintro _ ⟨q1, rfl⟩
    have hb1 := lat_below q1
    generalize lat q1 = w1 at *
    go_wp2
    try rw [Exit.noGoto_ret]
    go_ret
    exact ⟨rfl, bth HC.out.be hb1⟩
set_option maxHeartbeats 1000000 in
theorem pcheck_all (n : Nat) (O : List UInt8) (v : Value) (w : World) (hn : n ≤ 4096) (h0 : 0 < n) (hO : O.length = 32) (hS : SlAt w 32 v (hcs [])) :
    Calls Tryd.prog 27 #[.int .i64 (n : Int), .int .i64 (n : Int), hv O, hv O, v] w fun e w' => e = .returned (.int .i64 0) ∧ Below w.heap.size w w' := by
  have HC := hid (Ck.start w O O [] v hS)
  obtain ⟨a0, cap0, rfl, _⟩ := hS.formH
  generalize hgen : ((w.alloc (.cells (hc O) 29)).alloc (.cells (hc O) 29)).alloc (.cells #[.slice a0 ([] : List (List UInt8)).length cap0] 22) = w0 at HC
  have Hgen := hid hgen
  obtain ⟨v', hp, hp2⟩ := HC.out.pr
  obtain ⟨a, cap, rfl, _⟩ := hp2.formH
  have d1 : decide ((n : Int) < 0) = false := by simp
  have d2 : decide ((4096 : Int) < (n : Int)) = false := by simp; omega
  have d3 : ((n : Int) == 0) = false := beq_eq_false_iff_ne.mpr (by omega)
  have d4 : decide ((n : Int) < (n : Int)) = false := by simp
  have d5 : decide (n < n) = false := by simp
  have SO := hid (show (Tryd.prog.info? 29).map (·.size) = some O.length by rw [hO]; exact Tryd.sizeHash)
  have hs3 := Tryd.sizeHash
  have hs5 := Tryd.sizeU8
  have hge := Tryd.guardHash3
  have KP := hid (fun q : Later w0 => Blk.cell1 (hp.later (lat_below q)))
  have KO := hid (fun q : Later w0 => show ∀ j z, (O.map bcell)[j]? = some z → (lat q).cell? ((⟨w.heap.size, 0, none⟩ : Addr).add j) = some z from fun j z hz => (HC.out.bo.later (lat_below q)).cells j z (by rw [hc_toList]; exact hz))
  have KN := hid (fun q : Later w0 => show ∀ j z, (O.map bcell)[j]? = some z → (lat q).cell? ((⟨w.heap.size + 1, 0, none⟩ : Addr).add j) = some z from fun j z hz => (HC.out.bn.later (lat_below q)).cells j z (by rw [hc_toList]; exact hz))
  have CH := hid (fun q : Later w0 => holds_later (lat q))
  clear hS hgen hp hp2
  go_enter Tryd.func27, Tryd.ntmps27
  go_upto_region 1 with fail
  show Code.wp _ _ _ _ (((w.alloc (.cells (hc O) 29)).alloc (.cells (hc O) 29)).alloc (.cells #[.slice a0 ([] : List (List UInt8)).length cap0] 22))
  rw [Hgen.out]
  go_upto_region 6 with fail
  refine wp_region_seq_later ?_
  repeat (first
    | go_big_quiet_skip
    | (refine wpQuiet_load_one rfl 22 _ rfl ⟨w.heap.size + 2, 0, none⟩ rfl (.slice a ([] : List (List UInt8)).length cap) _ (by rintro _ ⟨q, rfl⟩; exact KP.out q) Tryd.underlying22 rfl ?_; simp only [Act.put, List.setIfInBounds_toArray, List.set_cons_succ, List.set_cons_zero])
    | (refine wpQuiet_load_hcG rfl 29 _ rfl ⟨w.heap.size, 0, none⟩ rfl _ _ (by rintro _ ⟨q, rfl⟩; exact KO.out q) Tryd.underlying29 rfl SO.out ?_; simp only [Act.put, List.setIfInBounds_toArray, List.set_cons_succ, List.set_cons_zero])
    | (refine wpQuiet_load_hcG rfl 29 _ rfl ⟨w.heap.size + 1, 0, none⟩ rfl _ _ (by rintro _ ⟨q, rfl⟩; exact KN.out q) Tryd.underlying29 rfl SO.out ?_; simp only [Act.put, List.setIfInBounds_toArray, List.set_cons_succ, List.set_cons_zero])
    | go_big_quiet_step ((first | (go_at_call 51; with_reducible exact calls_later (CH.out _)))))
  refine wpQuiet_nil ?_
  rintro _ ⟨q1, rfl⟩
  have hb1 := lat_below q1
  generalize lat q1 = w1 at *
  go_wp2
  try rw [Exit.noGoto_ret]
  go_ret
  exact ⟨rfl, bth HC.out.be hb1⟩
end Go.Proofs.YtbpjlancjdbehaaDoor
