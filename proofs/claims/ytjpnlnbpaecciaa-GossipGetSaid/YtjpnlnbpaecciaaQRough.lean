/- Rough heads -/
import Derived.Test.YtjpnlnbpaecciaaQSg

set_option maxRecDepth 100000
namespace Go.Spec
open Go.RowKit
/-- a rough head's cells -/
def rgA (z : Int) (root : List UInt8) (i : Int) (sig : List UInt8) (m : Int) (p : Value) : Array Value := (.int .i64 z :: (root.map bcell ++ [.int .i64 i, sv sig, .int .i8 m, p])).toArray
variable {P : Program} {w : World} {z i m : Int} {root sig : List UInt8} {p : Value}
@[go_sem] theorem rgA_size (h : root.length = 32) : (rgA z root i sig m p).size = 37 := by simp [rgA, h]
@[go_sem] theorem rgA_at33 (h : root.length = 32) (k : 33 < (rgA z root i sig m p).size) : (rgA z root i sig m p)[33] = .int .i64 i := by simp [rgA, h]
@[go_sem] theorem rgA_at34 (h : root.length = 32) (k : 34 < (rgA z root i sig m p).size) : (rgA z root i sig m p)[34] = sv sig := by simp [rgA, h]
@[go_sem] theorem rgA_at35 (h : root.length = 32) (k : 35 < (rgA z root i sig m p).size) : (rgA z root i sig m p)[35] = .int .i8 m := by simp [rgA, h]
@[go_sem] theorem rgA_at36 (h : root.length = 32) (k : 36 < (rgA z root i sig m p).size) : (rgA z root i sig m p)[36] = p := by simp [rgA, h]
theorem rgA_one (hp : p.oneCell' = true) : ∀ v ∈ (rgA z root i sig m p).toList, v.oneCell' = true := by
  intro v hv
  simp only [rgA, List.mem_cons, List.mem_append, List.mem_map, List.not_mem_nil, or_false] at hv
  rcases hv with rfl | ⟨b, _, rfl⟩ | rfl | rfl | rfl | rfl
  · rfl
  · rfl
  · rfl
  · rfl
  · rfl
  · exact hp
theorem Blk.rg33 {g : Nat} {t : TypeId} (h : Blk w g (rgA z root i sig m p) t) (hr : root.length = 32) : w.cell? ⟨g, 33, none⟩ = some (.int .i64 i) := by rw [h.cell]; simp [rgA, hr]
theorem Blk.rg34 {g : Nat} {t : TypeId} (h : Blk w g (rgA z root i sig m p) t) (hr : root.length = 32) : w.cell? ⟨g, 34, none⟩ = some (sv sig) := by rw [h.cell]; simp [rgA, hr]
theorem Blk.rg36 {g : Nat} {t : TypeId} (h : Blk w g (rgA z root i sig m p) t) (hr : root.length = 32) : w.cell? ⟨g, 36, none⟩ = some p := by rw [h.cell]; simp [rgA, hr]
theorem Blk.rgHead {g : Nat} {t : TypeId} (h : Blk w g (rgA z root i sig m p) t) : ∀ j u, (hdA z root).toList[j]? = some u → w.cell? ((⟨g, 0, none⟩ : Addr).add j) = some u :=
  h.piece 0 _ (fun j hj => by
    rw [Nat.zero_add]
    simp only [hdA, rgA, List.length_cons, List.length_map] at hj ⊢
    simp only [List.getElem?_toArray]
    rw [← List.cons_append, List.getElem?_append_left (by simpa using hj), List.getElem?_eq_getElem])
end Go.Spec
namespace Go.Spec
open Go.RowKit
theorem results_cell1 {P : Program} {w : World} {fn : Func} {p : Tmp} {ty : TypeId} (h : fn.results = #[.cell p ty]) (tmps : Array Value) (g : Nat) (t : TypeId) (cs : Array Value) (fr : Nat × Nat) (d : TypeDesc)
    (hp : tmps.getD p undef = .pointer (some ⟨g, 0, none⟩)) (hg : w.heap[g]? = some (.cells cs t fr))
    (hu : P.underlying ty = some d) (hd : (match d with | .struct _ | .array _ _ => true | _ => false) = true) (hi : (P.info? ty).map (·.size) = some cs.size) :
    (results fn tmps).run P w = .ok (.agg cs) w := by
  have hp' : tmps[p]?.getD undef = .pointer (some ⟨g, 0, none⟩) := by simpa using hp
  simp [results, h, hp', asAddr, run_loadVar_row w g t ty cs fr d hg hu hd hi]
end Go.Spec
namespace Go.Proofs.Ytjpnlnbpaecciaa
open Go.RowKit Go.Spec
theorem Try.sizeRough : (Try.prog.info? 75).map (·.size) = some 37 := by kernel_rfl
def greatB (sig : List UInt8) (n : Nat) : Bool := decide (300 < sig.length) || decide (40 < n)
set_option maxHeartbeats 2000000 in
theorem great_any (z i m : Int) (root sig : List UInt8) (a : Option Addr) (n cap : Nat) (w : World) (hr : root.length = 32) :
    Calls Try.prog 40 #[.agg (rgA z root i sig m (.slice a n cap))] w fun e w' => e = .returned (.bool (greatB sig n)) ∧ Below w.heap.size w w' := by
  by_cases h1 : 300 < sig.length
  · have Hf := hid (show greatB sig n = true by simp [greatB, h1])
    have d1 : decide (300 < (sig.length : Int)) = true := decide_eq_true (by omega)
    clear h1
    go_enter Try.func40, Try.ntmps40
    go_wp2
    go_ret
    exact ⟨by rw [Hf.out]; rfl, (Below.refl _ _).alloc (Nat.le_refl _) _⟩
  · have Hf := hid (show greatB sig n = decide (40 < n) by simp [greatB, h1])
    have d1 : decide (300 < (sig.length : Int)) = false := decide_eq_false (by omega)
    have d2 : decide (40 < (n : Int)) = decide (40 < n) := by simp; omega
    clear h1
    go_enter Try.func40, Try.ntmps40
    go_wp2
    go_ret
    exact ⟨by rw [Hf.out]; first | rfl | (rw [← d2]; rfl), (Below.refl _ _).alloc (Nat.le_refl _) _⟩
structure RoughSig (sig : List UInt8) (m : Int) (s : List UInt8) : Prop where
  some_ : 0 < sig.length → s.length = (16384 + m).toNat
  none_ : sig.length = 0 → s = []
set_option maxHeartbeats 4000000 in
theorem rsigned_any (z i m : Int) (root sig : List UInt8) (a : Option Addr) (n cap : Nat) (w : World) (hr : root.length = 32) (hs : sig.length ≤ 300) (hm1 : -128 ≤ m) (hm2 : m ≤ 127) :
    Calls Try.prog 41 #[.agg (rgA z root i sig m (.slice a n cap))] w fun e w' =>
      (∃ s : List UInt8, e = .returned (.agg (sgA z root i s (.slice a n cap))) ∧ RoughSig sig m s) ∧ Below w.heap.size w w' := by
  obtain ⟨N, hN⟩ : ∃ N : Nat, 16384 + m = N := ⟨(16384 + m).toNat, by omega⟩
  have hN1 : N ≤ 16511 := by omega
  have hN2 : 16256 ≤ N := by omega
  have hw8 : IntKind.i64.wrap m = m := by rw [IntKind.wrap_i64]; omega
  have HN := hid hN
  have Hm := hid (And.intro hm1 hm2)
  have Hs := hid hs
  have HB0 := (Blk.new w (rgA z root i sig m (.slice a n cap)) 75)
  go_enter Try.func41, Try.ntmps41
  go_upto_region 3 with fail
  go_loop [4] (fun x => ∃ l : List UInt8, x = sv l ∧ l.length ≤ N + 300 ∧ (sig.length = 0 → l = [])) (fun x => N + 301 - (match x with | .string b => b.size | _ => 0))
  case atStart => exact ⟨[], rfl, by simp, fun _ => rfl⟩
  case round =>
    obtain ⟨l, rfl, hl, hl0⟩ := hrel
    have Hl0 := hid hl0; clear hl0
    by_cases h0 : sig.length = 0
    · obtain rfl : sig = [] := List.eq_nil_of_length_eq_zero h0
      obtain rfl : l = [] := Hl0.out h0
      clear h0
      go_upto_region 5 with fail
      show Code.wp _ _ _ _ ((w.alloc (.cells (rgA z root i [] m (.slice a n cap)) 75)).alloc (.cells (sgA 0 zero32 0 [] (.slice none 0 0)) 41))
      have hwsz : ((w.alloc (.cells (rgA z root i [] m (.slice a n cap)) 75)).alloc (.cells (sgA 0 zero32 0 [] (.slice none 0 0)) 41)).heap.size = w.heap.size + 2 := by simp
      have HZ : Blk ((w.alloc (.cells (rgA z root i [] m (.slice a n cap)) 75)).alloc (.cells (sgA 0 zero32 0 [] (.slice none 0 0)) 41)) (w.heap.size + 1) (sgA 0 zero32 0 [] (.slice none 0 0)) 41 := Blk.new' _ _ _ (by simp)
      have HB1 := HB0.alloc (.cells (sgA 0 zero32 0 [] (.slice none 0 0)) 41)
      have HW := (((Below.refl _ w).alloc (Nat.le_refl _) (.cells (rgA z root i [] m (.slice a n cap)) 75)).alloc (by simp) (.cells (sgA 0 zero32 0 [] (.slice none 0 0)) 41))
      generalize ((w.alloc (.cells (rgA z root i [] m (.slice a n cap)) 75)).alloc (.cells (sgA 0 zero32 0 [] (.slice none 0 0)) 41)) = w5 at *
      have HB5 := hid HB1; have HZ5 := hid HZ; have HW5 := hid HW
      clear HB0 HB1 HZ HW
      have Hszh := hid (show (Try.prog.info? 36).map (·.size) = some (hdA z root).size by rw [hdA_size hr]; exact Try.sizeHead)
      refine wp_region_later_tail 14 (by kernel_rfl) (by kernel_rfl) ?_
      simp only [List.take_succ_cons, List.take_zero, List.drop_succ_cons, List.drop_zero]
      repeat (first
        | (refine wpQuiet_load_aggG rfl 36 _ rfl ⟨w.heap.size, 0, none⟩ rfl (hdA z root) _ (by rintro _ ⟨q, rfl⟩; exact (HB5.out.later (lat_below q)).rgHead) Try.underlying36 rfl Hszh.out ?_; simp only [Act.put, List.setIfInBounds_toArray, List.set_cons_succ, List.set_cons_zero])
        | (refine wpQuiet_buildP rfl 41 _ rfl (.agg (sgA z root i [] (.slice a n cap))) (fun w => buildSigned z i root [] (.slice a n cap) hr rfl w) ?_; simp only [Act.put, List.setIfInBounds_toArray, List.set_cons_succ, List.set_cons_zero])
        | (refine wpQuiet_load_one rfl 3 _ rfl ⟨w.heap.size, 33, none⟩ rfl (.int .i64 i) _ (by rintro _ ⟨q, rfl⟩; exact (HB5.out.later (lat_below q)).rg33 hr) Try.underlying3 rfl ?_; simp only [Act.put, List.setIfInBounds_toArray, List.set_cons_succ, List.set_cons_zero])
        | (refine wpQuiet_load_one rfl 37 _ rfl ⟨w.heap.size, 36, none⟩ rfl (.slice a n cap) _ (by rintro _ ⟨q, rfl⟩; exact (HB5.out.later (lat_below q)).rg36 hr) Try.underlying37 rfl ?_; simp only [Act.put, List.setIfInBounds_toArray, List.set_cons_succ, List.set_cons_zero])
        | go_big_quiet_step (fail))
      refine wpQuiet_nil ?_
      rintro _ ⟨q6, rfl⟩
      have hb6 := lat_below q6
      generalize lat q6 = w6 at *
      go_wp2_with ((with_reducible show wpList _ _ _ ({ dst := _, op := Op.store _ _ _, type := _, pos := _, after := _, guard := _ } :: _) _ _); refine wpList_store_blk rfl 41 _ _ rfl (w.heap.size + 1) rfl (sgA z root i [] (.slice a n cap)) rfl _ 41 (HZ5.out.later hb6) (by rw [sgA_size hr]; rfl) (by rw [sgA_size hr]; exact Try.sizeSigned) (sgA_one rfl) ?_)
      refine bodyPost_ret (results_cell1 rfl _ (w.heap.size + 1) 41 (sgA z root i [] (.slice a n cap)) (0, 0) _ rfl (setRow_get (cs := sgA z root i [] (.slice a n cap)) (HZ5.out.later hb6)) Try.underlying41 rfl (by rw [sgA_size hr]; exact Try.sizeSigned)) rfl ⟨⟨_, rfl, ?_⟩, ?_⟩
      · exact ⟨fun h => absurd h (by simp), fun _ => rfl⟩
      · exact (HW5.out.trans (hb6.mono HW5.out.size)).setRow (Nat.le_succ _) _
    · by_cases hlt : l.length < N
      · have d1 : decide ((l.length : Int) < (N : Int)) = true := decide_eq_true (by omega)
        have h00 : 0 < sig.length := by omega
        clear h0
        go_wp2
        go_round
        case rel => exact ⟨l ++ sig, by simp, by rw [List.length_append]; omega, fun h => by omega⟩
        case measure => simp only [mkS_size, List.length_append]; omega
      · have d1 : decide ((l.length : Int) < (N : Int)) = false := decide_eq_false (by omega)
        have h00 : 0 < sig.length := by omega
        have HNl := hid (show N ≤ l.length by omega)
        clear h0
        go_upto_region 5 with fail
        show Code.wp _ _ _ _ ((w.alloc (.cells (rgA z root i sig m (.slice a n cap)) 75)).alloc (.cells (sgA 0 zero32 0 [] (.slice none 0 0)) 41))
        have hwsz : ((w.alloc (.cells (rgA z root i sig m (.slice a n cap)) 75)).alloc (.cells (sgA 0 zero32 0 [] (.slice none 0 0)) 41)).heap.size = w.heap.size + 2 := by simp
        have HZ : Blk ((w.alloc (.cells (rgA z root i sig m (.slice a n cap)) 75)).alloc (.cells (sgA 0 zero32 0 [] (.slice none 0 0)) 41)) (w.heap.size + 1) (sgA 0 zero32 0 [] (.slice none 0 0)) 41 := Blk.new' _ _ _ (by simp)
        have HB1 := HB0.alloc (.cells (sgA 0 zero32 0 [] (.slice none 0 0)) 41)
        have HW := (((Below.refl _ w).alloc (Nat.le_refl _) (.cells (rgA z root i sig m (.slice a n cap)) 75)).alloc (by simp) (.cells (sgA 0 zero32 0 [] (.slice none 0 0)) 41))
        generalize ((w.alloc (.cells (rgA z root i sig m (.slice a n cap)) 75)).alloc (.cells (sgA 0 zero32 0 [] (.slice none 0 0)) 41)) = w5 at *
        have HB5 := hid HB1; have HZ5 := hid HZ; have HW5 := hid HW
        clear HB0 HB1 HZ HW
        have Hszh := hid (show (Try.prog.info? 36).map (·.size) = some (hdA z root).size by rw [hdA_size hr]; exact Try.sizeHead)
        have hif : (if N < l.length then (N : Int) else (l.length : Int)) = (N : Int) := by split <;> omega
        refine wp_region_later_tail 14 (by kernel_rfl) (by kernel_rfl) ?_
        simp only [List.take_succ_cons, List.take_zero, List.drop_succ_cons, List.drop_zero]
        repeat (first
          | (refine wpQuiet_load_aggG rfl 36 _ rfl ⟨w.heap.size, 0, none⟩ rfl (hdA z root) _ (by rintro _ ⟨q, rfl⟩; exact (HB5.out.later (lat_below q)).rgHead) Try.underlying36 rfl Hszh.out ?_; simp only [Act.put, List.setIfInBounds_toArray, List.set_cons_succ, List.set_cons_zero])
          | (refine wpQuiet_buildP rfl 41 _ rfl (.agg (sgA z root i (l.take N) (.slice a n cap))) (fun w => buildSigned z i root (l.take N) (.slice a n cap) hr rfl w) ?_; simp only [Act.put, List.setIfInBounds_toArray, List.set_cons_succ, List.set_cons_zero])
          | (refine wpQuiet_load_one rfl 3 _ rfl ⟨w.heap.size, 33, none⟩ rfl (.int .i64 i) _ (by rintro _ ⟨q, rfl⟩; exact (HB5.out.later (lat_below q)).rg33 hr) Try.underlying3 rfl ?_; simp only [Act.put, List.setIfInBounds_toArray, List.set_cons_succ, List.set_cons_zero])
          | (refine wpQuiet_load_one rfl 37 _ rfl ⟨w.heap.size, 36, none⟩ rfl (.slice a n cap) _ (by rintro _ ⟨q, rfl⟩; exact (HB5.out.later (lat_below q)).rg36 hr) Try.underlying37 rfl ?_; simp only [Act.put, List.setIfInBounds_toArray, List.set_cons_succ, List.set_cons_zero])
          | go_big_quiet_step (fail))
        refine wpQuiet_nil ?_
        rintro _ ⟨q6, rfl⟩
        have hb6 := lat_below q6
        generalize lat q6 = w6 at *
        go_wp2_with ((with_reducible show wpList _ _ _ ({ dst := _, op := Op.store _ _ _, type := _, pos := _, after := _, guard := _ } :: _) _ _); refine wpList_store_blk rfl 41 _ _ rfl (w.heap.size + 1) rfl (sgA z root i (l.take N) (.slice a n cap)) rfl _ 41 (HZ5.out.later hb6) (by rw [sgA_size hr]; rfl) (by rw [sgA_size hr]; exact Try.sizeSigned) (sgA_one rfl) ?_)
        refine bodyPost_ret (results_cell1 rfl _ (w.heap.size + 1) 41 (sgA z root i (l.take N) (.slice a n cap)) (0, 0) _ rfl (setRow_get (cs := sgA z root i (l.take N) (.slice a n cap)) (HZ5.out.later hb6)) Try.underlying41 rfl (by rw [sgA_size hr]; exact Try.sizeSigned)) rfl ⟨⟨_, rfl, ?_⟩, ?_⟩
        · clear hif
          have h1 := HNl.out
          have h2 := HN.out
          exact ⟨fun _ => by rw [List.length_take]; omega, fun h => absurd h (by omega)⟩
        · exact (HW5.out.trans (hb6.mono HW5.out.size)).setRow (Nat.le_succ _) _
end Go.Proofs.Ytjpnlnbpaecciaa
