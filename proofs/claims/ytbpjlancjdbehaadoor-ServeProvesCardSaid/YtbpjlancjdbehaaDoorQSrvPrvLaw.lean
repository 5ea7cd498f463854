/- the law ServeProves, plain: what is told of a log is checked -/
import Derived.Test.YtbpjlancjdbehaaDoorQPCheckM
import Derived.Test.YtbpjlancjdbehaaDoorQPathCheck
import Derived.Test.YtbpjlancjdbehaaDoorQSrvLog

set_option maxRecDepth 100000
namespace Go.Proofs.YtbpjlancjdbehaaDoor
open Go.RowKit Go.Spec
theorem sCheckN (hs : List (List UInt8)) (k M : Nat) (Y : List UInt8) (u : Value) (w : World) (hM : M ≤ hs.length) (hl : M ≤ 60) (hk : k < M) (hY : hs[k]? = some Y) (h32 : ∀ x ∈ hs, x.length = 32) (hS : SlAt w 32 u (hcs (pathL (hs.take M) k))) (hG : ShaG w) :
    Calls Tryd.prog 26 #[hv Y, .int .i64 (k : Int), .int .i64 (M : Int), u, hv (rootL (hs.take M))] w fun e w' => e = .returned (.int .i64 0) ∧ Below w.heap.size w w' := by
  have hlt : (hs.take M).length = M := by rw [List.length_take]; omega
  have e : checkE ((hs.take M).getD k []) (k : Int) ((hs.take M).length : Int) (pathL (hs.take M) k) (rootL (hs.take M)) = 0 := by
    unfold checkE
    have h : ¬ chkOut (k : Int) ((hs.take M).length : Int) := by unfold chkOut; omega
    rw [if_neg h, Int.toNat_natCast, Int.toNat_natCast, check_path _ k (by omega)]; rfl
  rw [hlt, show (hs.take M).getD k [] = Y by rw [List.getD_eq_getElem?_getD, List.getElem?_take_of_lt hk, hY]; rfl] at e
  have := check_any Y (k : Int) (M : Int) u (pathL (hs.take M) k) (rootL (hs.take M)) w (h32 Y (List.mem_of_getElem? hY)) (rootL_len _ (hs.take M) (Nat.le_refl _) (fun x hx => h32 x (List.mem_of_mem_take hx))) (by have := path_len (hs.take M) k 6 (by omega) (by omega); omega) hS hG
  rwa [e] at this
theorem sPcheckN (hs : List (List UInt8)) (k M : Nat) (u : Value) (w : World) (hM : M ≤ hs.length) (hl : M ≤ 60) (hk : k ≤ M) (h32 : ∀ x ∈ hs, x.length = 32) (hS : SlAt w 32 u (hcs (proofL (hs.take M) k))) (hG : ShaG w) :
    Calls Tryd.prog 27 #[.int .i64 (k : Int), .int .i64 (M : Int), hv (rootL (hs.take k)), hv (rootL (hs.take M)), u] w fun e w' => e = .returned (.int .i64 0) ∧ Below w.heap.size w w' := by
  have hlt : (hs.take M).length = M := by rw [List.length_take]; omega
  have := pcheck_ok (hs.take M) k u w (by omega) (by omega) (fun x hx => h32 x (List.mem_of_mem_take hx)) hS hG
  rwa [hlt, List.take_take, Nat.min_eq_left hk] at this
theorem sizeS_log (es : List (List UInt8)) (v : Nat) (h : v ≤ es.length) : sizeS (logS es (v : Int)) = (v : Int) := by
  unfold sizeS logS
  simp only [List.length_map]
  rw [if_pos (by omega)]
theorem log_small (es : List (List UInt8)) (v : Int) (hl : es.length ≤ 40) (h1 : ∀ t ∈ es, t.length ≤ 200) : SrcSmall (logS es v) :=
  ⟨by simp only [logS]; omega, fun t ht => by have := h1 t ht; omega, by simp only [logS, List.length_map]; omega, by simp [logS], by simp [logS]⟩
theorem rprX_nat (l : List (List UInt8)) (m : Nat) (h : m ≤ l.length) : rprX l (m : Int) = proofL l m := by
  unfold rprX proofL
  by_cases h0 : m = 0
  · rw [if_neg (by omega), if_pos (.inl h0)]
  · rw [if_pos (by omega), Int.toNat_natCast]
    by_cases h1 : m = l.length
    · rw [if_pos (.inr h1), h1, sub_all _ _ (by omega)]; rfl
    · rw [if_neg (by omega)]
theorem pathX_nat (l : List (List UInt8)) (i : Nat) (h : i < l.length) : pathX l (i : Int) = pathL l i := by
  unfold pathX; rw [if_pos (by unfold inN; omega), Int.toNat_natCast]
/-- when an error is told -/
def ErrC (v : Nat) (r : Rq) : Prop := (v : Int) < r.size ∨ (¬ (v : Int) < r.size ∧ r.size ≤ r.fr ∧ (r.kind = 2 ∨ r.kind = 3)) ∨ (¬ (v : Int) < r.size ∧ r.size < r.fr ∧ r.kind = 4) ∨ (¬ (v : Int) < r.size ∧ r.fr < r.size ∧ r.kind = 2 ∧ (r.count < 1 ∨ (¬ r.count < 1 ∧ 16 < r.count) ∨ (¬ r.count < 1 ∧ ¬ 16 < r.count ∧ r.size < r.fr + r.count)))
structure PrvIn (v : Nat) (r : Rq) : Prop where
  kind : r.kind = 2 ∨ r.kind = 3 ∨ r.kind = 4
  fr : 0 ≤ r.fr ∧ r.fr ≤ 63
  count : 0 ≤ r.count ∧ r.count ≤ 31
  size : 0 ≤ r.size ∧ r.size ≤ 63
inductive PrvX (es : List (List UInt8)) (v : Nat) (r : Rq) (X : RpK) : Prop
  | err (c : Int) (hc : c = 82 ∨ c = 2) (hX : X = ⟨r.id, 1, c, [], [], []⟩) (he : ErrC v r)
  | ents (a c s : Nat) (hr : r = ⟨r.id, 2, (a : Int), (c : Int), (s : Int)⟩) (h1 : 1 ≤ c) (h2 : c ≤ 16) (h3 : a + c ≤ s) (h4 : s ≤ v) (hX : X = ⟨r.id, 3, 0, [], (es.take (a + c)).drop a, proofL ((es.map leafL).take s) (a + c)⟩)
  | incl (a c s : Nat) (hr : r = ⟨r.id, 3, (a : Int), (c : Int), (s : Int)⟩) (h3 : a < s) (h4 : s ≤ v) (hX : X = ⟨r.id, 4, 0, [], [], pathL ((es.map leafL).take s) a⟩)
  | cons (a c s : Nat) (hr : r = ⟨r.id, 4, (a : Int), (c : Int), (s : Int)⟩) (h3 : a ≤ s) (h4 : s ≤ v) (hX : X = ⟨r.id, 4, 0, [], [], proofL ((es.map leafL).take s) a⟩)
theorem prv_cases (es : List (List UInt8)) (v : Nat) (r : Rq) (hv : v ≤ es.length) (h : PrvIn v r) : PrvX es v r (ansRp (logS es (v : Int)) r) := by
  obtain ⟨id, kd, fr, ct, sz⟩ := r
  obtain ⟨hk, ⟨hf1, hf2⟩, ⟨hc1, hc2⟩, ⟨hs1, hs2⟩⟩ := h
  simp only at hk hf1 hf2 hc1 hc2 hs1 hs2
  obtain ⟨a, rfl⟩ := Int.eq_ofNat_of_zero_le hf1
  obtain ⟨c, rfl⟩ := Int.eq_ofNat_of_zero_le hc1
  obtain ⟨s, rfl⟩ := Int.eq_ofNat_of_zero_le hs1
  rcases hk with rfl | rfl | rfl
  · have e0 : ansRp (logS es (v : Int)) ⟨id, 2, (a : Int), (c : Int), (s : Int)⟩ = entRp (logS es (v : Int)) ⟨id, 2, (a : Int), (c : Int), (s : Int)⟩ := by unfold ansRp; simp
    rw [e0]
    unfold entRp
    rw [sizeS_log es v hv]
    simp only
    by_cases g1 : (c : Int) < 1 ∨ 16 < (c : Int) ∨ (a : Int) < 0
    · rw [if_pos g1]
      refine .err 2 (.inr rfl) rfl ?_
      by_cases q1 : (v : Int) < (s : Int)
      · exact .inl q1
      by_cases q2 : (s : Int) ≤ (a : Int)
      · exact .inr (.inl ⟨q1, q2, .inl rfl⟩)
      · exact .inr (.inr (.inr ⟨q1, by simp only; omega, rfl, by simp only; omega⟩))
    · rw [if_neg g1]
      by_cases g2 : (v : Int) < (s : Int) ∨ (s : Int) < (c : Int) ∨ (s : Int) - (c : Int) < (a : Int)
      · rw [if_pos g2]
        refine .err 82 (.inl rfl) rfl ?_
        by_cases q1 : (v : Int) < (s : Int)
        · exact .inl q1
        by_cases q2 : (s : Int) ≤ (a : Int)
        · exact .inr (.inl ⟨q1, q2, .inl rfl⟩)
        · exact .inr (.inr (.inr ⟨q1, by simp only; omega, rfl, by simp only; omega⟩))
      · rw [if_neg g2]
        refine .ents a c s rfl (by omega) (by omega) (by omega) (by omega) ?_
        have e1 : (a : Int) + (c : Int) = ((a + c : Nat) : Int) := by omega
        simp only [e1, Int.toNat_natCast]
        rw [rprX_nat _ (a + c) (by simp only [logS, List.length_take, List.length_map]; omega)]
        rfl
  · have e0 : ansRp (logS es (v : Int)) ⟨id, 3, (a : Int), (c : Int), (s : Int)⟩ = (if sizeS (logS es (v : Int)) < (s : Int) ∨ (a : Int) < 0 ∨ (s : Int) ≤ (a : Int) then failRp id 82 else ⟨id, 4, 0, [], [], pathX ((logS es (v : Int)).leaves.take (s : Int).toNat) (a : Int)⟩) := by unfold ansRp; simp
    rw [e0, sizeS_log es v hv]
    by_cases g1 : (v : Int) < (s : Int) ∨ (a : Int) < 0 ∨ (s : Int) ≤ (a : Int)
    · rw [if_pos g1]
      refine .err 82 (.inl rfl) rfl ?_
      by_cases q1 : (v : Int) < (s : Int)
      · exact .inl q1
      · exact .inr (.inl ⟨q1, by simp only; omega, .inr rfl⟩)
    · rw [if_neg g1]
      refine .incl a c s rfl (by omega) (by omega) ?_
      rw [Int.toNat_natCast, pathX_nat _ a (by simp only [logS, List.length_take, List.length_map]; omega)]
      rfl
  · have e0 : ansRp (logS es (v : Int)) ⟨id, 4, (a : Int), (c : Int), (s : Int)⟩ = (if sizeS (logS es (v : Int)) < (s : Int) ∨ (a : Int) < 0 ∨ (s : Int) < (a : Int) then failRp id 82 else ⟨id, 4, 0, [], [], rprX ((logS es (v : Int)).leaves.take (s : Int).toNat) (a : Int)⟩) := by unfold ansRp; simp
    rw [e0, sizeS_log es v hv]
    by_cases g1 : (v : Int) < (s : Int) ∨ (a : Int) < 0 ∨ (s : Int) < (a : Int)
    · rw [if_pos g1]
      refine .err 82 (.inl rfl) rfl ?_
      by_cases q1 : (v : Int) < (s : Int)
      · exact .inl q1
      · exact .inr (.inr (.inl ⟨q1, by simp only; omega, rfl⟩))
    · rw [if_neg g1]
      refine .cons a c s rfl (by omega) (by omega) ?_
      rw [Int.toNat_natCast, rprX_nat _ a (by simp only [logS, List.length_take, List.length_map]; omega)]
      rfl
theorem proofL_len (l : List (List UInt8)) (m : Nat) (hm : m ≤ l.length) (hl : l.length ≤ 1000000) : (proofL l m).length ≤ 21 := by
  rw [← rprX_nat l m hm]; exact rprX_len l m hl
/-- may be put, where its id may -/
theorem prv_put (es : List (List UInt8)) (v : Nat) (r : Rq) (X : RpK) (hv : v ≤ es.length) (hl : es.length ≤ 40) (h1 : ∀ t ∈ es, t.length ≤ 200) (h : PrvX es v r X) : (putRp X).isSome = goodZ r.id := by
  have hb : (bodyRp X).isSome = true := by
    cases h with
    | err c hc hX he =>
      subst hX
      unfold bodyRp
      rw [if_pos rfl, if_pos (by simp only; omega)]; rfl
    | ents a c s hr h1' h2 h3 h4 hX =>
      subst hX
      have hp := proofL_len ((es.map leafL).take s) (a + c) (by simp only [List.length_take, List.length_map]; omega) (by simp only [List.length_take, List.length_map]; omega)
      unfold bodyRp
      simp only
      rw [if_neg (by omega), if_neg (by omega), if_pos trivial, if_pos ?_]
      · rfl
      · unfold entriesB
        simp only [Bool.and_eq_true, decide_eq_true_eq, List.all_eq_true, List.length_drop, List.length_take]
        have hq : ∀ t ∈ (es.take (a + c)).drop a, t.length ≤ 200 := fun t ht => h1 t (List.mem_of_mem_take (List.mem_of_mem_drop ht))
        exact ⟨⟨hq, by omega⟩, by omega⟩
    | incl a c s hr h3 h4 hX =>
      subst hX
      have hp := path_len ((es.map leafL).take s) a 20 (by simp only [List.length_take, List.length_map]; omega) (by simp only [List.length_take, List.length_map]; omega)
      unfold bodyRp
      simp only
      rw [if_neg (by omega), if_neg (by omega), if_neg (by omega), if_pos trivial, if_pos (by omega)]; rfl
    | cons a c s hr h3 h4 hX =>
      subst hX
      have hp := proofL_len ((es.map leafL).take s) a (by simp only [List.length_take, List.length_map]; omega) (by simp only [List.length_take, List.length_map]; omega)
      unfold bodyRp
      simp only
      rw [if_neg (by omega), if_neg (by omega), if_neg (by omega), if_pos trivial, if_pos (by omega)]; rfl
  have hi : X.id = r.id := by cases h with
    | err c hc hX he => rw [hX]
    | ents a c s hr h1' h2 h3 h4 hX => rw [hX]
    | incl a c s hr h3 h4 hX => rw [hX]
    | cons a c s hr h3 h4 hX => rw [hX]
  unfold putRp
  rw [hi]
  cases hg : goodZ r.id
  · rfl
  · obtain ⟨b, hb⟩ := Option.isSome_iff_exists.1 hb
    rw [hb]; rfl
/-- messagesOf -/
theorem msgof_any (x : RpK) (vh ve vp : Value) (ds : List Sg) (w : World) (hx : RpIn w x vh ve vp ds) (hs : RpSmall x) :
    Calls Tryd.prog 38 #[.agg (rpC x vh ve vp)] w fun e w' => e = .returned (.bool (putRp x).isSome) ∧ Below w.heap.size w w' := by
  have HX := hid hx
  have PT := hid (fun w0 h0 => rpput_any x vh ve vp ds w0 h0 hs)
  clear hx hs
  generalize putRp x = PV at *
  go_enter Tryd.func38, Tryd.ntmps38
  go_upto_region 1 with fail
  refine wp_world (fun W => Blk W w.heap.size (rpC x vh ve vp) 68 ∧ Below w.heap.size w W) ⟨Blk.new _ _ _, (Below.refl _ w).alloc (Nat.le_refl _) _⟩ ?_
  rintro w0 ⟨hY, hb⟩
  have HY := hid hY; have HB := hid hb
  clear hY hb
  go_wp2_with (first
    | ((with_reducible show wpList _ _ _ ({ dst := _, op := Op.load 68 _, type := _, pos := _, after := _, guard := _ } :: _) _ _); refine wpList_load_blk rfl 68 _ rfl w.heap.size rfl 68 (rpC x vh ve vp) _ HY.out Tryd.underlying68 rfl Tryd.sizeRpS ?_)
    | (go_at_call 61; refine (PT.out _ (HX.out.below HB.out)).mono ?_; rintro e w1 ⟨rfl, hb1⟩; cases PV <;> simp only [putR]))
  all_goals go_ret
  all_goals exact ⟨rfl, bth HB.out hb1⟩
end Go.Proofs.YtbpjlancjdbehaaDoor
