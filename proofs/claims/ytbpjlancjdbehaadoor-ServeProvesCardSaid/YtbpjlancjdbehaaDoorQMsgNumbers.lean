/- messages.numbers: where a request's numbers lie -/
import Derived.Test.YtbpjlancjdbehaaDoorQAnyOp
import Derived.Test.YtbpjlancjdbehaaDoorQSg

set_option maxRecDepth 100000
namespace Go.Proofs.YtbpjlancjdbehaaDoor
open Go.RowKit Go.Spec
theorem Tryd.infoPInt : (Tryd.prog.info? 118).map (fun i => (i.zero, i.size, i.bytes)) = some (some (.pointer none), 1, 8) := by kernel_rfl
def Rq.at_ (r : Rq) : List Nat := if r.kind = 2 then [0, 1, 2, 3, 4] else if r.kind = 3 ∨ r.kind = 4 then [0, 1, 2, 4] else [0, 1]
def ptrs (g : Nat) (l : List Nat) : List Value := l.map fun j => .pointer (some ⟨g, j, none⟩)
theorem ptrs_one (g : Nat) (l : List Nat) : ∀ u ∈ ptrs g l, u.oneCell' = true := by
  intro u hu
  simp only [ptrs, List.mem_map] at hu
  obtain ⟨j, _, rfl⟩ := hu
  rfl
set_option maxHeartbeats 2000000 in
theorem numbers_any (g t : Nat) (r : Rq) (w : World) (hB : Blk w g r.cs t) :
    Calls Tryd.prog 78 #[.pointer (some ⟨g, 0, none⟩)] w fun e w' => (∃ v, e = .returned v ∧ w'.ownsRow w.heap.size 118 1 v r.at_.length (ptrs g r.at_)) ∧ Below w.heap.size w w' := by
  obtain ⟨i0, hi, hz0, hz1, hz2⟩ := info_parts Tryd.infoPInt
  have hk := hB.cell 1
  have hkv : r.cs[1]? = some (.int .i64 r.kind) := rfl
  rw [hkv] at hk
  have hlt := hB.lt
  have HB := hid hB; clear hB
  have Hat := hid (show r.at_ = if r.kind = 2 then [0, 1, 2, 3, 4] else if r.kind = 3 ∨ r.kind = 4 then [0, 1, 2, 4] else [0, 1] from rfl)
  generalize r.at_ = L at *
  generalize r.kind = k at *
  clear hkv
  go_enter Tryd.func78, Tryd.ntmps78
  go_upto_region 1 with fail
  refine wp_region_tail 6 (by kernel_rfl) (by kernel_rfl) ?_
  intro w1 he1 hb1
  simp only [List.take_succ_cons, List.take_zero, List.drop_succ_cons, List.drop_zero]
  repeat (first | still_step)
  refine wpStill_nil ?_
  have Hk1 : w1.cell? ⟨g, 1, none⟩ = some (.int .i64 k) := by unfold World.cell? at hk ⊢; rw [he1]; exact hk
  have hs1 : w1.heap.size = w.heap.size := by rw [he1]
  clear hk
  by_cases h2 : k = 2
  · subst h2
    rw [if_pos rfl] at Hat
    have := Hat.out; subst this
    go_upto_region 4 with fail
    have hown0 := (Blk.new' w1 #[.pointer (some ⟨g, 0, none⟩), .pointer (some ⟨g, 1, none⟩)] 118 hs1.symm).owns (base := w.heap.size) (size := 1) (n := 2) (by omega) (by unfold maxLen; omega) rfl
    refine wp_region_anyw (by kernel_rfl) ?_
    intro w2 he2 hb2
    have Hown := hid (hown0.later hb2)
    have HB2 := hid ((hb1.alloc hb1.size (.cells #[.pointer (some ⟨g, 0, none⟩), .pointer (some ⟨g, 1, none⟩)] 118)).trans (hb2.mono (by simp; omega)))
    have hbase : w.heap.size ≤ w2.heap.size := HB2.out.size
    clear hown0 he2 hb2
    show wpAny _ _ _ _ 13 (Array.replicate 13 false) _ _
    refine wpAny_take (i := 0) (v := .slice (some ⟨w.heap.size, 0, none⟩) 2 2) rfl (by kernel_rfl) (by kernel_rfl) (by kernel_rfl) (fun _ _ _ h => h) (Or.inl ⟨by rfl, ?_⟩) ?_
    · intro w
      go_simp
      try exact IntWalk.i64_in _ (by omega)
      try omega
    (first | dsimp only [List.getElem_toArray, List.getElem_cons_succ, List.getElem_cons_zero] | dsimp (maxSteps := 10000000) only [List.getElem_toArray, List.getElem_cons_succ, List.getElem_cons_zero] | skip); (first | go_frame | simp (maxSteps := 10000000) only [Act.put, List.setIfInBounds_toArray, List.set_cons_succ, List.set_cons_zero] | skip)
    refine wpAny_take (i := 1) (v := .pointer (some ⟨g, 0, none⟩)) rfl (by kernel_rfl) (by kernel_rfl) (by kernel_rfl) (fun _ _ _ h => h) (Or.inl ⟨by rfl, ?_⟩) ?_
    · intro w
      go_simp
      try exact IntWalk.i64_in _ (by omega)
      try omega
    (first | dsimp only [List.getElem_toArray, List.getElem_cons_succ, List.getElem_cons_zero] | dsimp (maxSteps := 10000000) only [List.getElem_toArray, List.getElem_cons_succ, List.getElem_cons_zero] | skip); (first | go_frame | simp (maxSteps := 10000000) only [Act.put, List.setIfInBounds_toArray, List.set_cons_succ, List.set_cons_zero] | skip)
    refine wpAny_take (i := 2) (v := .pointer (some ⟨g, 0, none⟩)) rfl (by kernel_rfl) (by kernel_rfl) (by kernel_rfl) (fun _ _ _ h => h) (Or.inl ⟨by rfl, ?_⟩) ?_
    · intro w
      go_simp
      try exact IntWalk.i64_in _ (by omega)
      try omega
    (first | dsimp only [List.getElem_toArray, List.getElem_cons_succ, List.getElem_cons_zero] | dsimp (maxSteps := 10000000) only [List.getElem_toArray, List.getElem_cons_succ, List.getElem_cons_zero] | skip); (first | go_frame | simp (maxSteps := 10000000) only [Act.put, List.setIfInBounds_toArray, List.set_cons_succ, List.set_cons_zero] | skip)
    refine wpAny_take (i := 3) (v := .pointer (some ⟨g, 2, none⟩)) rfl (by kernel_rfl) (by kernel_rfl) (by kernel_rfl) (fun _ _ _ h => h) (Or.inl ⟨by rfl, ?_⟩) ?_
    · intro w
      go_simp
      try exact IntWalk.i64_in _ (by omega)
      try omega
    (first | dsimp only [List.getElem_toArray, List.getElem_cons_succ, List.getElem_cons_zero] | dsimp (maxSteps := 10000000) only [List.getElem_toArray, List.getElem_cons_succ, List.getElem_cons_zero] | skip); (first | go_frame | simp (maxSteps := 10000000) only [Act.put, List.setIfInBounds_toArray, List.set_cons_succ, List.set_cons_zero] | skip)
    refine wpAny_take (i := 4) (v := .pointer (some ⟨g, 0, none⟩)) rfl (by kernel_rfl) (by kernel_rfl) (by kernel_rfl) (fun _ _ _ h => h) (Or.inl ⟨by rfl, ?_⟩) ?_
    · intro w
      go_simp
      try exact IntWalk.i64_in _ (by omega)
      try omega
    (first | dsimp only [List.getElem_toArray, List.getElem_cons_succ, List.getElem_cons_zero] | dsimp (maxSteps := 10000000) only [List.getElem_toArray, List.getElem_cons_succ, List.getElem_cons_zero] | skip); (first | go_frame | simp (maxSteps := 10000000) only [Act.put, List.setIfInBounds_toArray, List.set_cons_succ, List.set_cons_zero] | skip)
    refine wpAny_take (i := 5) (v := .pointer (some ⟨g, 0, none⟩)) rfl (by kernel_rfl) (by kernel_rfl) (by kernel_rfl) (fun _ _ _ h => h) (Or.inl ⟨by rfl, ?_⟩) ?_
    · intro w
      go_simp
      try exact IntWalk.i64_in _ (by omega)
      try omega
    (first | dsimp only [List.getElem_toArray, List.getElem_cons_succ, List.getElem_cons_zero] | dsimp (maxSteps := 10000000) only [List.getElem_toArray, List.getElem_cons_succ, List.getElem_cons_zero] | skip); (first | go_frame | simp (maxSteps := 10000000) only [Act.put, List.setIfInBounds_toArray, List.set_cons_succ, List.set_cons_zero] | skip)
    refine wpAny_take (i := 6) (v := .pointer (some ⟨g, 3, none⟩)) rfl (by kernel_rfl) (by kernel_rfl) (by kernel_rfl) (fun _ _ _ h => h) (Or.inl ⟨by rfl, ?_⟩) ?_
    · intro w
      go_simp
      try exact IntWalk.i64_in _ (by omega)
      try omega
    (first | dsimp only [List.getElem_toArray, List.getElem_cons_succ, List.getElem_cons_zero] | dsimp (maxSteps := 10000000) only [List.getElem_toArray, List.getElem_cons_succ, List.getElem_cons_zero] | skip); (first | go_frame | simp (maxSteps := 10000000) only [Act.put, List.setIfInBounds_toArray, List.set_cons_succ, List.set_cons_zero] | skip)
    refine wpAny_take (i := 7) (v := .pointer (some ⟨g, 0, none⟩)) rfl (by kernel_rfl) (by kernel_rfl) (by kernel_rfl) (fun _ _ _ h => h) (Or.inl ⟨by rfl, ?_⟩) ?_
    · intro w
      go_simp
      try exact IntWalk.i64_in _ (by omega)
      try omega
    (first | dsimp only [List.getElem_toArray, List.getElem_cons_succ, List.getElem_cons_zero] | dsimp (maxSteps := 10000000) only [List.getElem_toArray, List.getElem_cons_succ, List.getElem_cons_zero] | skip); (first | go_frame | simp (maxSteps := 10000000) only [Act.put, List.setIfInBounds_toArray, List.set_cons_succ, List.set_cons_zero] | skip)
    refine wpAny_take (i := 8) (v := .pointer (some ⟨g, 0, none⟩)) rfl (by kernel_rfl) (by kernel_rfl) (by kernel_rfl) (fun _ _ _ h => h) (Or.inl ⟨by rfl, ?_⟩) ?_
    · intro w
      go_simp
      try exact IntWalk.i64_in _ (by omega)
      try omega
    (first | dsimp only [List.getElem_toArray, List.getElem_cons_succ, List.getElem_cons_zero] | dsimp (maxSteps := 10000000) only [List.getElem_toArray, List.getElem_cons_succ, List.getElem_cons_zero] | skip); (first | go_frame | simp (maxSteps := 10000000) only [Act.put, List.setIfInBounds_toArray, List.set_cons_succ, List.set_cons_zero] | skip)
    refine wpAny_take (i := 9) (v := .pointer (some ⟨g, 4, none⟩)) rfl (by kernel_rfl) (by kernel_rfl) (by kernel_rfl) (fun _ _ _ h => h) (Or.inl ⟨by rfl, ?_⟩) ?_
    · intro w
      go_simp
      try exact IntWalk.i64_in _ (by omega)
      try omega
    (first | dsimp only [List.getElem_toArray, List.getElem_cons_succ, List.getElem_cons_zero] | dsimp (maxSteps := 10000000) only [List.getElem_toArray, List.getElem_cons_succ, List.getElem_cons_zero] | skip); (first | go_frame | simp (maxSteps := 10000000) only [Act.put, List.setIfInBounds_toArray, List.set_cons_succ, List.set_cons_zero] | skip)
    refine wpAny_forced (i := 10) (by kernel_rfl) rfl ?_
    (first | dsimp only [List.getElem_toArray, List.getElem_cons_succ, List.getElem_cons_zero] | dsimp (maxSteps := 10000000) only [List.getElem_toArray, List.getElem_cons_succ, List.getElem_cons_zero] | skip); (first | go_frame | simp (maxSteps := 10000000) only [Act.put, List.setIfInBounds_toArray, List.set_cons_succ, List.set_cons_zero] | skip)
    refine wpList_buildSliceR rfl 115 _ _ rfl (.slice (some ⟨w2.heap.size, 0, none⟩) 3 3) (w2.alloc (.cells #[.pointer (some ⟨g, 2, none⟩), .pointer (some ⟨g, 3, none⟩), .pointer (some ⟨g, 4, none⟩)] 118)) (by kernel_rfl) ?_
    refine wpList_nil ?_
    (first | dsimp only [List.getElem_toArray, List.getElem_cons_succ, List.getElem_cons_zero] | dsimp (maxSteps := 10000000) only [List.getElem_toArray, List.getElem_cons_succ, List.getElem_cons_zero] | skip); (first | go_frame | simp (maxSteps := 10000000) only [Act.put, List.setIfInBounds_toArray, List.set_cons_succ, List.set_cons_zero] | skip)
    refine wpAny_forced (i := 11) (by kernel_rfl) rfl ?_
    (first | dsimp only [List.getElem_toArray, List.getElem_cons_succ, List.getElem_cons_zero] | dsimp (maxSteps := 10000000) only [List.getElem_toArray, List.getElem_cons_succ, List.getElem_cons_zero] | skip); (first | go_frame | simp (maxSteps := 10000000) only [Act.put, List.setIfInBounds_toArray, List.set_cons_succ, List.set_cons_zero] | skip)
    refine wpList_app rfl _ _ 115 rfl w.heap.size 118 i0 (.pointer none) 1 8 Tryd.underlying115 hi hz0 hz1 hz2 rfl (by decide) (.slice (some ⟨w.heap.size, 0, none⟩) 2 2) 2 (ptrs g [0, 1]) rfl (Hown.out.alloc _) ⟨w2.heap.size, 0, none⟩ 3 3 (ptrs g [2, 3, 4]) rfl rfl (row_alloc (cs := #[.pointer (some ⟨g, 2, none⟩), .pointer (some ⟨g, 3, none⟩), .pointer (some ⟨g, 4, none⟩)])) (ptrs_one _ _) (by unfold maxLen; omega) (by omega) (by simp; omega) ?_
    intro v' w3 hown hg hat
    refine wpList_nil ?_
    (first | dsimp only [List.getElem_toArray, List.getElem_cons_succ, List.getElem_cons_zero] | dsimp (maxSteps := 10000000) only [List.getElem_toArray, List.getElem_cons_succ, List.getElem_cons_zero] | skip); (first | go_frame | simp (maxSteps := 10000000) only [Act.put, List.setIfInBounds_toArray, List.set_cons_succ, List.set_cons_zero] | skip)
    have HB3 := hid ((HB2.out.alloc hbase (.cells #[.pointer (some ⟨g, 2, none⟩), .pointer (some ⟨g, 3, none⟩), .pointer (some ⟨g, 4, none⟩)] 118)).grown hg (by simp; omega) (fun q hq => by simp [Value.ownBlock] at hq; omega))
    have Hown3 := hid hown
    clear hg hat hown
    refine wpAny_take (i := 12) (v := v') rfl (by kernel_rfl) (by kernel_rfl) (by kernel_rfl) (fun _ _ _ h => h) (Or.inl ⟨by rfl, ?_⟩) ?_
    · intro w
      go_simp
      try exact IntWalk.i64_in _ (by omega)
      try omega
    (first | dsimp only [List.getElem_toArray, List.getElem_cons_succ, List.getElem_cons_zero] | dsimp (maxSteps := 10000000) only [List.getElem_toArray, List.getElem_cons_succ, List.getElem_cons_zero] | skip); (first | go_frame | simp (maxSteps := 10000000) only [Act.put, List.setIfInBounds_toArray, List.set_cons_succ, List.set_cons_zero] | skip)
    refine wpAny_done (by kernel_rfl) ?_ _
    go_wp2
    go_ret
    exact ⟨⟨_, rfl, Hown3.out⟩, HB3.out⟩
  · by_cases h3 : k = 3
    · subst h3
      have := Hat.out; simp at this; subst this
      go_upto_region 7 with fail
      have hown0 := (Blk.new' w1 #[.pointer (some ⟨g, 0, none⟩), .pointer (some ⟨g, 1, none⟩)] 118 hs1.symm).owns (base := w.heap.size) (size := 1) (n := 2) (by omega) (by unfold maxLen; omega) rfl
      refine wp_region_anyw (by kernel_rfl) ?_
      intro w2 he2 hb2
      have Hown := hid (hown0.later hb2)
      have HB2 := hid ((hb1.alloc hb1.size (.cells #[.pointer (some ⟨g, 0, none⟩), .pointer (some ⟨g, 1, none⟩)] 118)).trans (hb2.mono (by simp; omega)))
      have hbase : w.heap.size ≤ w2.heap.size := HB2.out.size
      clear hown0 he2 hb2
      show wpAny _ _ _ _ 10 (Array.replicate 10 false) _ _
      refine wpAny_take (i := 0) (v := .slice (some ⟨w.heap.size, 0, none⟩) 2 2) rfl (by kernel_rfl) (by kernel_rfl) (by kernel_rfl) (fun _ _ _ h => h) (Or.inl ⟨by rfl, ?_⟩) ?_
      · intro w
        go_simp
        try exact IntWalk.i64_in _ (by omega)
        try omega
      (first | dsimp only [List.getElem_toArray, List.getElem_cons_succ, List.getElem_cons_zero] | dsimp (maxSteps := 10000000) only [List.getElem_toArray, List.getElem_cons_succ, List.getElem_cons_zero] | skip); (first | go_frame | simp (maxSteps := 10000000) only [Act.put, List.setIfInBounds_toArray, List.set_cons_succ, List.set_cons_zero] | skip)
      refine wpAny_take (i := 1) (v := .pointer (some ⟨g, 0, none⟩)) rfl (by kernel_rfl) (by kernel_rfl) (by kernel_rfl) (fun _ _ _ h => h) (Or.inl ⟨by rfl, ?_⟩) ?_
      · intro w
        go_simp
        try exact IntWalk.i64_in _ (by omega)
        try omega
      (first | dsimp only [List.getElem_toArray, List.getElem_cons_succ, List.getElem_cons_zero] | dsimp (maxSteps := 10000000) only [List.getElem_toArray, List.getElem_cons_succ, List.getElem_cons_zero] | skip); (first | go_frame | simp (maxSteps := 10000000) only [Act.put, List.setIfInBounds_toArray, List.set_cons_succ, List.set_cons_zero] | skip)
      refine wpAny_take (i := 2) (v := .pointer (some ⟨g, 0, none⟩)) rfl (by kernel_rfl) (by kernel_rfl) (by kernel_rfl) (fun _ _ _ h => h) (Or.inl ⟨by rfl, ?_⟩) ?_
      · intro w
        go_simp
        try exact IntWalk.i64_in _ (by omega)
        try omega
      (first | dsimp only [List.getElem_toArray, List.getElem_cons_succ, List.getElem_cons_zero] | dsimp (maxSteps := 10000000) only [List.getElem_toArray, List.getElem_cons_succ, List.getElem_cons_zero] | skip); (first | go_frame | simp (maxSteps := 10000000) only [Act.put, List.setIfInBounds_toArray, List.set_cons_succ, List.set_cons_zero] | skip)
      refine wpAny_take (i := 3) (v := .pointer (some ⟨g, 2, none⟩)) rfl (by kernel_rfl) (by kernel_rfl) (by kernel_rfl) (fun _ _ _ h => h) (Or.inl ⟨by rfl, ?_⟩) ?_
      · intro w
        go_simp
        try exact IntWalk.i64_in _ (by omega)
        try omega
      (first | dsimp only [List.getElem_toArray, List.getElem_cons_succ, List.getElem_cons_zero] | dsimp (maxSteps := 10000000) only [List.getElem_toArray, List.getElem_cons_succ, List.getElem_cons_zero] | skip); (first | go_frame | simp (maxSteps := 10000000) only [Act.put, List.setIfInBounds_toArray, List.set_cons_succ, List.set_cons_zero] | skip)
      refine wpAny_take (i := 4) (v := .pointer (some ⟨g, 0, none⟩)) rfl (by kernel_rfl) (by kernel_rfl) (by kernel_rfl) (fun _ _ _ h => h) (Or.inl ⟨by rfl, ?_⟩) ?_
      · intro w
        go_simp
        try exact IntWalk.i64_in _ (by omega)
        try omega
      (first | dsimp only [List.getElem_toArray, List.getElem_cons_succ, List.getElem_cons_zero] | dsimp (maxSteps := 10000000) only [List.getElem_toArray, List.getElem_cons_succ, List.getElem_cons_zero] | skip); (first | go_frame | simp (maxSteps := 10000000) only [Act.put, List.setIfInBounds_toArray, List.set_cons_succ, List.set_cons_zero] | skip)
      refine wpAny_take (i := 5) (v := .pointer (some ⟨g, 0, none⟩)) rfl (by kernel_rfl) (by kernel_rfl) (by kernel_rfl) (fun _ _ _ h => h) (Or.inl ⟨by rfl, ?_⟩) ?_
      · intro w
        go_simp
        try exact IntWalk.i64_in _ (by omega)
        try omega
      (first | dsimp only [List.getElem_toArray, List.getElem_cons_succ, List.getElem_cons_zero] | dsimp (maxSteps := 10000000) only [List.getElem_toArray, List.getElem_cons_succ, List.getElem_cons_zero] | skip); (first | go_frame | simp (maxSteps := 10000000) only [Act.put, List.setIfInBounds_toArray, List.set_cons_succ, List.set_cons_zero] | skip)
      refine wpAny_take (i := 6) (v := .pointer (some ⟨g, 4, none⟩)) rfl (by kernel_rfl) (by kernel_rfl) (by kernel_rfl) (fun _ _ _ h => h) (Or.inl ⟨by rfl, ?_⟩) ?_
      · intro w
        go_simp
        try exact IntWalk.i64_in _ (by omega)
        try omega
      (first | dsimp only [List.getElem_toArray, List.getElem_cons_succ, List.getElem_cons_zero] | dsimp (maxSteps := 10000000) only [List.getElem_toArray, List.getElem_cons_succ, List.getElem_cons_zero] | skip); (first | go_frame | simp (maxSteps := 10000000) only [Act.put, List.setIfInBounds_toArray, List.set_cons_succ, List.set_cons_zero] | skip)
      refine wpAny_forced (i := 7) (by kernel_rfl) rfl ?_
      (first | dsimp only [List.getElem_toArray, List.getElem_cons_succ, List.getElem_cons_zero] | dsimp (maxSteps := 10000000) only [List.getElem_toArray, List.getElem_cons_succ, List.getElem_cons_zero] | skip); (first | go_frame | simp (maxSteps := 10000000) only [Act.put, List.setIfInBounds_toArray, List.set_cons_succ, List.set_cons_zero] | skip)
      refine wpList_buildSliceR rfl 115 _ _ rfl (.slice (some ⟨w2.heap.size, 0, none⟩) 2 2) (w2.alloc (.cells #[.pointer (some ⟨g, 2, none⟩), .pointer (some ⟨g, 4, none⟩)] 118)) (by kernel_rfl) ?_
      refine wpList_nil ?_
      (first | dsimp only [List.getElem_toArray, List.getElem_cons_succ, List.getElem_cons_zero] | dsimp (maxSteps := 10000000) only [List.getElem_toArray, List.getElem_cons_succ, List.getElem_cons_zero] | skip); (first | go_frame | simp (maxSteps := 10000000) only [Act.put, List.setIfInBounds_toArray, List.set_cons_succ, List.set_cons_zero] | skip)
      refine wpAny_forced (i := 8) (by kernel_rfl) rfl ?_
      (first | dsimp only [List.getElem_toArray, List.getElem_cons_succ, List.getElem_cons_zero] | dsimp (maxSteps := 10000000) only [List.getElem_toArray, List.getElem_cons_succ, List.getElem_cons_zero] | skip); (first | go_frame | simp (maxSteps := 10000000) only [Act.put, List.setIfInBounds_toArray, List.set_cons_succ, List.set_cons_zero] | skip)
      refine wpList_app rfl _ _ 115 rfl w.heap.size 118 i0 (.pointer none) 1 8 Tryd.underlying115 hi hz0 hz1 hz2 rfl (by decide) (.slice (some ⟨w.heap.size, 0, none⟩) 2 2) 2 (ptrs g [0, 1]) rfl (Hown.out.alloc _) ⟨w2.heap.size, 0, none⟩ 2 2 (ptrs g [2, 4]) rfl rfl (row_alloc (cs := #[.pointer (some ⟨g, 2, none⟩), .pointer (some ⟨g, 4, none⟩)])) (ptrs_one _ _) (by unfold maxLen; omega) (by omega) (by simp; omega) ?_
      intro v' w3 hown hg hat
      refine wpList_nil ?_
      (first | dsimp only [List.getElem_toArray, List.getElem_cons_succ, List.getElem_cons_zero] | dsimp (maxSteps := 10000000) only [List.getElem_toArray, List.getElem_cons_succ, List.getElem_cons_zero] | skip); (first | go_frame | simp (maxSteps := 10000000) only [Act.put, List.setIfInBounds_toArray, List.set_cons_succ, List.set_cons_zero] | skip)
      have HB3 := hid ((HB2.out.alloc hbase (.cells #[.pointer (some ⟨g, 2, none⟩), .pointer (some ⟨g, 4, none⟩)] 118)).grown hg (by simp; omega) (fun q hq => by simp [Value.ownBlock] at hq; omega))
      have Hown3 := hid hown
      clear hg hat hown
      refine wpAny_take (i := 9) (v := v') rfl (by kernel_rfl) (by kernel_rfl) (by kernel_rfl) (fun _ _ _ h => h) (Or.inl ⟨by rfl, ?_⟩) ?_
      · intro w
        go_simp
        try exact IntWalk.i64_in _ (by omega)
        try omega
      (first | dsimp only [List.getElem_toArray, List.getElem_cons_succ, List.getElem_cons_zero] | dsimp (maxSteps := 10000000) only [List.getElem_toArray, List.getElem_cons_succ, List.getElem_cons_zero] | skip); (first | go_frame | simp (maxSteps := 10000000) only [Act.put, List.setIfInBounds_toArray, List.set_cons_succ, List.set_cons_zero] | skip)
      refine wpAny_done (by kernel_rfl) ?_ _
      go_wp2
      go_ret
      exact ⟨⟨_, rfl, Hown3.out⟩, HB3.out⟩
    · by_cases h4 : k = 4
      · subst h4
        have := Hat.out; simp at this; subst this
        go_upto_region 7 with fail
        have hown0 := (Blk.new' w1 #[.pointer (some ⟨g, 0, none⟩), .pointer (some ⟨g, 1, none⟩)] 118 hs1.symm).owns (base := w.heap.size) (size := 1) (n := 2) (by omega) (by unfold maxLen; omega) rfl
        refine wp_region_anyw (by kernel_rfl) ?_
        intro w2 he2 hb2
        have Hown := hid (hown0.later hb2)
        have HB2 := hid ((hb1.alloc hb1.size (.cells #[.pointer (some ⟨g, 0, none⟩), .pointer (some ⟨g, 1, none⟩)] 118)).trans (hb2.mono (by simp; omega)))
        have hbase : w.heap.size ≤ w2.heap.size := HB2.out.size
        clear hown0 he2 hb2
        show wpAny _ _ _ _ 10 (Array.replicate 10 false) _ _
        refine wpAny_take (i := 0) (v := .slice (some ⟨w.heap.size, 0, none⟩) 2 2) rfl (by kernel_rfl) (by kernel_rfl) (by kernel_rfl) (fun _ _ _ h => h) (Or.inl ⟨by rfl, ?_⟩) ?_
        · intro w
          go_simp
          try exact IntWalk.i64_in _ (by omega)
          try omega
        (first | dsimp only [List.getElem_toArray, List.getElem_cons_succ, List.getElem_cons_zero] | dsimp (maxSteps := 10000000) only [List.getElem_toArray, List.getElem_cons_succ, List.getElem_cons_zero] | skip); (first | go_frame | simp (maxSteps := 10000000) only [Act.put, List.setIfInBounds_toArray, List.set_cons_succ, List.set_cons_zero] | skip)
        refine wpAny_take (i := 1) (v := .pointer (some ⟨g, 0, none⟩)) rfl (by kernel_rfl) (by kernel_rfl) (by kernel_rfl) (fun _ _ _ h => h) (Or.inl ⟨by rfl, ?_⟩) ?_
        · intro w
          go_simp
          try exact IntWalk.i64_in _ (by omega)
          try omega
        (first | dsimp only [List.getElem_toArray, List.getElem_cons_succ, List.getElem_cons_zero] | dsimp (maxSteps := 10000000) only [List.getElem_toArray, List.getElem_cons_succ, List.getElem_cons_zero] | skip); (first | go_frame | simp (maxSteps := 10000000) only [Act.put, List.setIfInBounds_toArray, List.set_cons_succ, List.set_cons_zero] | skip)
        refine wpAny_take (i := 2) (v := .pointer (some ⟨g, 0, none⟩)) rfl (by kernel_rfl) (by kernel_rfl) (by kernel_rfl) (fun _ _ _ h => h) (Or.inl ⟨by rfl, ?_⟩) ?_
        · intro w
          go_simp
          try exact IntWalk.i64_in _ (by omega)
          try omega
        (first | dsimp only [List.getElem_toArray, List.getElem_cons_succ, List.getElem_cons_zero] | dsimp (maxSteps := 10000000) only [List.getElem_toArray, List.getElem_cons_succ, List.getElem_cons_zero] | skip); (first | go_frame | simp (maxSteps := 10000000) only [Act.put, List.setIfInBounds_toArray, List.set_cons_succ, List.set_cons_zero] | skip)
        refine wpAny_take (i := 3) (v := .pointer (some ⟨g, 2, none⟩)) rfl (by kernel_rfl) (by kernel_rfl) (by kernel_rfl) (fun _ _ _ h => h) (Or.inl ⟨by rfl, ?_⟩) ?_
        · intro w
          go_simp
          try exact IntWalk.i64_in _ (by omega)
          try omega
        (first | dsimp only [List.getElem_toArray, List.getElem_cons_succ, List.getElem_cons_zero] | dsimp (maxSteps := 10000000) only [List.getElem_toArray, List.getElem_cons_succ, List.getElem_cons_zero] | skip); (first | go_frame | simp (maxSteps := 10000000) only [Act.put, List.setIfInBounds_toArray, List.set_cons_succ, List.set_cons_zero] | skip)
        refine wpAny_take (i := 4) (v := .pointer (some ⟨g, 0, none⟩)) rfl (by kernel_rfl) (by kernel_rfl) (by kernel_rfl) (fun _ _ _ h => h) (Or.inl ⟨by rfl, ?_⟩) ?_
        · intro w
          go_simp
          try exact IntWalk.i64_in _ (by omega)
          try omega
        (first | dsimp only [List.getElem_toArray, List.getElem_cons_succ, List.getElem_cons_zero] | dsimp (maxSteps := 10000000) only [List.getElem_toArray, List.getElem_cons_succ, List.getElem_cons_zero] | skip); (first | go_frame | simp (maxSteps := 10000000) only [Act.put, List.setIfInBounds_toArray, List.set_cons_succ, List.set_cons_zero] | skip)
        refine wpAny_take (i := 5) (v := .pointer (some ⟨g, 0, none⟩)) rfl (by kernel_rfl) (by kernel_rfl) (by kernel_rfl) (fun _ _ _ h => h) (Or.inl ⟨by rfl, ?_⟩) ?_
        · intro w
          go_simp
          try exact IntWalk.i64_in _ (by omega)
          try omega
        (first | dsimp only [List.getElem_toArray, List.getElem_cons_succ, List.getElem_cons_zero] | dsimp (maxSteps := 10000000) only [List.getElem_toArray, List.getElem_cons_succ, List.getElem_cons_zero] | skip); (first | go_frame | simp (maxSteps := 10000000) only [Act.put, List.setIfInBounds_toArray, List.set_cons_succ, List.set_cons_zero] | skip)
        refine wpAny_take (i := 6) (v := .pointer (some ⟨g, 4, none⟩)) rfl (by kernel_rfl) (by kernel_rfl) (by kernel_rfl) (fun _ _ _ h => h) (Or.inl ⟨by rfl, ?_⟩) ?_
        · intro w
          go_simp
          try exact IntWalk.i64_in _ (by omega)
          try omega
        (first | dsimp only [List.getElem_toArray, List.getElem_cons_succ, List.getElem_cons_zero] | dsimp (maxSteps := 10000000) only [List.getElem_toArray, List.getElem_cons_succ, List.getElem_cons_zero] | skip); (first | go_frame | simp (maxSteps := 10000000) only [Act.put, List.setIfInBounds_toArray, List.set_cons_succ, List.set_cons_zero] | skip)
        refine wpAny_forced (i := 7) (by kernel_rfl) rfl ?_
        (first | dsimp only [List.getElem_toArray, List.getElem_cons_succ, List.getElem_cons_zero] | dsimp (maxSteps := 10000000) only [List.getElem_toArray, List.getElem_cons_succ, List.getElem_cons_zero] | skip); (first | go_frame | simp (maxSteps := 10000000) only [Act.put, List.setIfInBounds_toArray, List.set_cons_succ, List.set_cons_zero] | skip)
        refine wpList_buildSliceR rfl 115 _ _ rfl (.slice (some ⟨w2.heap.size, 0, none⟩) 2 2) (w2.alloc (.cells #[.pointer (some ⟨g, 2, none⟩), .pointer (some ⟨g, 4, none⟩)] 118)) (by kernel_rfl) ?_
        refine wpList_nil ?_
        (first | dsimp only [List.getElem_toArray, List.getElem_cons_succ, List.getElem_cons_zero] | dsimp (maxSteps := 10000000) only [List.getElem_toArray, List.getElem_cons_succ, List.getElem_cons_zero] | skip); (first | go_frame | simp (maxSteps := 10000000) only [Act.put, List.setIfInBounds_toArray, List.set_cons_succ, List.set_cons_zero] | skip)
        refine wpAny_forced (i := 8) (by kernel_rfl) rfl ?_
        (first | dsimp only [List.getElem_toArray, List.getElem_cons_succ, List.getElem_cons_zero] | dsimp (maxSteps := 10000000) only [List.getElem_toArray, List.getElem_cons_succ, List.getElem_cons_zero] | skip); (first | go_frame | simp (maxSteps := 10000000) only [Act.put, List.setIfInBounds_toArray, List.set_cons_succ, List.set_cons_zero] | skip)
        refine wpList_app rfl _ _ 115 rfl w.heap.size 118 i0 (.pointer none) 1 8 Tryd.underlying115 hi hz0 hz1 hz2 rfl (by decide) (.slice (some ⟨w.heap.size, 0, none⟩) 2 2) 2 (ptrs g [0, 1]) rfl (Hown.out.alloc _) ⟨w2.heap.size, 0, none⟩ 2 2 (ptrs g [2, 4]) rfl rfl (row_alloc (cs := #[.pointer (some ⟨g, 2, none⟩), .pointer (some ⟨g, 4, none⟩)])) (ptrs_one _ _) (by unfold maxLen; omega) (by omega) (by simp; omega) ?_
        intro v' w3 hown hg hat
        refine wpList_nil ?_
        (first | dsimp only [List.getElem_toArray, List.getElem_cons_succ, List.getElem_cons_zero] | dsimp (maxSteps := 10000000) only [List.getElem_toArray, List.getElem_cons_succ, List.getElem_cons_zero] | skip); (first | go_frame | simp (maxSteps := 10000000) only [Act.put, List.setIfInBounds_toArray, List.set_cons_succ, List.set_cons_zero] | skip)
        have HB3 := hid ((HB2.out.alloc hbase (.cells #[.pointer (some ⟨g, 2, none⟩), .pointer (some ⟨g, 4, none⟩)] 118)).grown hg (by simp; omega) (fun q hq => by simp [Value.ownBlock] at hq; omega))
        have Hown3 := hid hown
        clear hg hat hown
        refine wpAny_take (i := 9) (v := v') rfl (by kernel_rfl) (by kernel_rfl) (by kernel_rfl) (fun _ _ _ h => h) (Or.inl ⟨by rfl, ?_⟩) ?_
        · intro w
          go_simp
          try exact IntWalk.i64_in _ (by omega)
          try omega
        (first | dsimp only [List.getElem_toArray, List.getElem_cons_succ, List.getElem_cons_zero] | dsimp (maxSteps := 10000000) only [List.getElem_toArray, List.getElem_cons_succ, List.getElem_cons_zero] | skip); (first | go_frame | simp (maxSteps := 10000000) only [Act.put, List.setIfInBounds_toArray, List.set_cons_succ, List.set_cons_zero] | skip)
        refine wpAny_done (by kernel_rfl) ?_ _
        go_wp2
        go_ret
        exact ⟨⟨_, rfl, Hown3.out⟩, HB3.out⟩
      · have := Hat.out
        rw [if_neg h2, if_neg (by simp [h3, h4])] at this
        subst this
        have d2 : (k == 2) = false := by simpa using h2
        have d3 : (k == 3) = false := by simpa using h3
        have d4 : (k == 4) = false := by simpa using h4
        clear h2 h3 h4
        go_wp2
        go_ret
        exact ⟨⟨_, rfl, (Blk.new' w1 #[.pointer (some ⟨g, 0, none⟩), .pointer (some ⟨g, 1, none⟩)] 118 hs1.symm).owns (base := w.heap.size) (size := 1) (n := 2) (by omega) (by unfold maxLen; omega) rfl⟩, hb1.alloc hb1.size _⟩
end Go.Proofs.YtbpjlancjdbehaaDoor
/- messages.PutRequest -/
namespace Go.Proofs.YtbpjlancjdbehaaDoor
open Go.RowKit Go.Spec
theorem ptrs_get (g : Nat) (l : List Nat) (k j : Nat) (h : l[k]? = some j) : (ptrs g l)[k]? = some (.pointer (some ⟨g, j, none⟩)) := by
  unfold ptrs
  rw [List.getElem?_map, h]
  rfl
end Go.Proofs.YtbpjlancjdbehaaDoor
