/- messages.numbers: where a request's numbers lie -/
import Derived.Test.YtbpjlancjdbehaaDoorQAnyOp
import Derived.Test.YtbpjlancjdbehaaDoorQSg

set_option maxRecDepth 100000
namespace Go.Proofs.YtbpjlancjdbehaaDoor
open Go.RowKit Go.Spec
theorem Tryd.infoPInt : (Tryd.prog.info? 118).map (fun i => (i.zero, i.size, i.bytes)) = some (some (.pointer none), 1, 8) := by kernel_rfl
def Rq.at_ (r : Rq) : List Nat := if r.kind = 2 then [0, 1, 2, 3, 4] else if r.kind = 3 ∨ r.kind = 4 then [0, 1, 2, 4] else [0, 1]
def ptrs (g : Nat) (l : List Nat) : List Value := l.map fun j => .pointer (some ⟨g, j, none⟩)
theorem ptrs_one (g : Nat) (l : List Nat) : ∀ u ∈ ptrs g l, u.oneCell' = true := by
  intro u hu
  simp only [ptrs, List.mem_map] at hu
  obtain ⟨j, _, rfl⟩ := hu
  rfl
set_option maxHeartbeats 2000000 in
theorem numbers_any (g t : Nat) (r : Rq) (w : World) (hB : Blk w g r.cs t) :
    Calls Tryd.prog 78 #[.pointer (some ⟨g, 0, none⟩)] w fun e w' => (∃ v, e = .returned v ∧ w'.ownsRow w.heap.size 118 1 v r.at_.length (ptrs g r.at_)) ∧ Below w.heap.size w w' := by
  obtain ⟨i0, hi, hz0, hz1, hz2⟩ := info_parts Tryd.infoPInt
  have hk := hB.cell 1
  have hkv : r.cs[1]? = some (.int .i64 r.kind) := rfl
  rw [hkv] at hk
  have hlt := hB.lt
  have HB := hid hB; clear hB
  have Hat := hid (show r.at_ = if r.kind = 2 then [0, 1, 2, 3, 4] else if r.kind = 3 ∨ r.kind = 4 then [0, 1, 2, 4] else [0, 1] from rfl)
  generalize r.at_ = L at *
  generalize r.kind = k at *
  clear hkv
  go_enter Tryd.func78, Tryd.ntmps78
  go_upto_region 1 with fail
  refine wp_region_tail 6 (by kernel_rfl) (by kernel_rfl) ?_
  intro w1 he1 hb1
  simp only [List.take_succ_cons, List.take_zero, List.drop_succ_cons, List.drop_zero]
  repeat (first | still_step)
  refine wpStill_nil ?_
  have Hk1 : w1.cell? ⟨g, 1, none⟩ = some (.int .i64 k) := by unfold World.cell? at hk ⊢; rw [he1]; exact hk
  have hs1 : w1.heap.size = w.heap.size := by rw [he1]
  clear hk
  by_cases h2 : k = 2
  · subst h2
    rw [if_pos rfl] at Hat
    have := Hat.out; subst this
    go_upto_region 4 with fail
    have hown0 := (Blk.new' w1 #[.pointer (some ⟨g, 0, none⟩), .pointer (some ⟨g, 1, none⟩)] 118 hs1.symm).owns (base := w.heap.size) (size := 1) (n := 2) (by omega) (by unfold maxLen; omega) rfl
    refine wp_region_anyw (by kernel_rfl) ?_
    intro w2 he2 hb2
    have Hown := hid (hown0.later hb2)
    have HB2 := hid ((hb1.alloc hb1.size (.cells #[.pointer (some ⟨g, 0, none⟩), .pointer (some ⟨g, 1, none⟩)] 118)).trans (hb2.mono (by simp; omega)))
    have hbase : w.heap.size ≤ w2.heap.size := HB2.out.size
    clear hown0 he2 hb2
    show wpAny _ _ _ _ 13 (Array.replicate 13 false) _ _
    refine wpAny_take (i := 0) (v := .slice (some ⟨w.heap.size, 0, none⟩) 2 2) rfl (by kernel_rfl) (by kernel_rfl) (by kernel_rfl) (fun _ _ _ h => h) (Or.inl ⟨by rfl, ?_⟩) ?_
    · intro w
      go_simp
      try exact IntWalk.i64_in _ (by omega)
      try omega
    (first | dsimp only [List.getElem_toArray, List.getElem_cons_succ, List.getElem_cons_zero] | dsimp (maxSteps := 10000000) only [List.getElem_toArray, List.getElem_cons_succ, List.getElem_cons_zero] | skip); (first | go_frame | simp (maxSteps := 10000000) only [Act.put, List.setIfInBounds_toArray, List.set_cons_succ, List.set_cons_zero] | skip)
    refine wpAny_take (i := 1) (v := .pointer (some ⟨g, 0, none⟩)) rfl (by kernel_rfl) (by kernel_rfl) (by kernel_rfl) (fun _ _ _ h => h) (Or.inl ⟨by rfl, ?_⟩) ?_
    · intro w
      go_simp
      try exact IntWalk.i64_in _ (by omega)
      try omega
    (first | dsimp only [List.getElem_toArray, List.getElem_cons_succ, List.getElem_cons_zero] | dsimp (maxSteps := 10000000) only [List.getElem_toArray, List.getElem_cons_succ, List.getElem_cons_zero] | skip); (first | go_frame | simp (maxSteps := 10000000) only [Act.put, List.setIfInBounds_toArray, List.set_cons_succ, List.set_cons_zero] | skip)
    refine wpAny_take (i := 2) (v := .pointer (some ⟨g, 0, none⟩)) rfl (by kernel_rfl) (by kernel_rfl) (by kernel_rfl) (fun _ _ _ h => h) (Or.inl ⟨by rfl, ?_⟩) ?_
    · intro w
      go_simp
      try exact IntWalk.i64_in _ (by omega)
      try omega
    (first | dsimp only [List.getElem_toArray, List.getElem_cons_succ, List.getElem_cons_zero] | dsimp (maxSteps := 10000000) only [List.getElem_toArray, List.getElem_cons_succ, List.getElem_cons_zero] | skip); (first | go_frame | simp (maxSteps := 10000000) only [Act.put, List.setIfInBounds_toArray, List.set_cons_succ, List.set_cons_zero] | skip)
    refine wpAny_take (i := 3) (v := .pointer (some ⟨g, 2, none⟩)) rfl (by kernel_rfl) (by kernel_rfl) (by kernel_rfl) (fun _ _ _ h => h) (Or.inl ⟨by rfl, ?_⟩) ?_
    · intro w
      go_simp
      try exact IntWalk.i64_in _ (by omega)
      try omega
    (first | dsimp only [List.getElem_toArray, List.getElem_cons_succ, List.getElem_cons_zero] | dsimp (maxSteps := 10000000) only [List.getElem_toArray, List.getElem_cons_succ, List.getElem_cons_zero] | skip); (first | go_frame | simp (maxSteps := 10000000) only [Act.put, List.setIfInBounds_toArray, List.set_cons_succ, List.set_cons_zero] | skip)
    refine wpAny_take (i := 4) (v := .pointer (some ⟨g, 0, none⟩)) rfl (by kernel_rfl) (by kernel_rfl) (by kernel_rfl) (fun _ _ _ h => h) (Or.inl ⟨by rfl, ?_⟩) ?_
    · intro w
      go_simp
      try exact IntWalk.i64_in _ (by omega)
      try omega
    (first | dsimp only [List.getElem_toArray, List.getElem_cons_succ, List.getElem_cons_zero] | dsimp (maxSteps := 10000000) only [List.getElem_toArray, List.getElem_cons_succ, List.getElem_cons_zero] | skip); (first | go_frame | simp (maxSteps := 10000000) only [Act.put, List.setIfInBounds_toArray, List.set_cons_succ, List.set_cons_zero] | skip)
    refine wpAny_take (i := 5) (v := .pointer (some ⟨g, 0, none⟩)) rfl (by kernel_rfl) (by kernel_rfl) (by kernel_rfl) (fun _ _ _ h => h) (Or.inl ⟨by rfl, ?_⟩) ?_
    · intro w
      go_simp
      try exact IntWalk.i64_in _ (by omega)
      try omega
    (first | dsimp only [List.getElem_toArray, List.getElem_cons_succ, List.getElem_cons_zero] | dsimp (maxSteps := 10000000) only [List.getElem_toArray, List.getElem_cons_succ, List.getElem_cons_zero] | skip); (first | go_frame | simp (maxSteps := 10000000) only [Act.put, List.setIfInBounds_toArray, List.set_cons_succ, List.set_cons_zero] | skip)
    refine wpAny_take (i := 6) (v := .pointer (some ⟨g, 3, none⟩)) rfl (by kernel_rfl) (by kernel_rfl) (by kernel_rfl) (fun _ _ _ h => h) (Or.inl ⟨by rfl, ?_⟩) ?_
    · intro w
      go_simp
      try exact IntWalk.i64_in _ (by omega)
      try omega
    (first | dsimp only [List.getElem_toArray, List.getElem_cons_succ, List.getElem_cons_zero] | dsimp (maxSteps := 10000000) only [List.getElem_toArray, List.getElem_cons_succ, List.getElem_cons_zero] | skip); (first | go_frame | simp (maxSteps := 10000000) only [Act.put, List.setIfInBounds_toArray, List.set_cons_succ, List.set_cons_zero] | skip)
    refine wpAny_take (i := 7) (v := .pointer (some ⟨g, 0, none⟩)) rfl (by kernel_rfl) (by kernel_rfl) (by kernel_rfl) (fun _ _ _ h => h) (Or.inl ⟨by rfl, ?_⟩) ?_
    · intro w
      go_simp
      try exact IntWalk.i64_in _ (by omega)
      try omega
    (first | dsimp only [List.getElem_toArray, List.getElem_cons_succ, List.getElem_cons_zero] | dsimp (maxSteps := 10000000) only [List.getElem_toArray, List.getElem_cons_succ, List.getElem_cons_zero] | skip); (first | go_frame | simp (maxSteps := 10000000) only [Act.put, List.setIfInBounds_toArray, List.set_cons_succ, List.set_cons_zero] | skip)
    refine wpAny_take (i := 8) (v := .pointer (some ⟨g, 0, none⟩)) rfl (by kernel_rfl) (by kernel_rfl) (by kernel_rfl) (fun _ _ _ h => h) (Or.inl ⟨by rfl, ?_⟩) ?_
    · intro w
      go_simp
      try exact IntWalk.i64_in _ (by omega)
      try omega
    (first | dsimp only [List.getElem_toArray, List.getElem_cons_succ, List.getElem_cons_zero] | dsimp (maxSteps := 10000000) only [List.getElem_toArray, List.getElem_cons_succ, List.getElem_cons_zero] | skip); (first | go_frame | simp (maxSteps := 10000000) only [Act.put, List.setIfInBounds_toArray, List.set_cons_succ, List.set_cons_zero] | skip)
    refine wpAny_take (i := 9) (v := .pointer (some ⟨g, 4, none⟩)) rfl (by kernel_rfl) (by kernel_rfl) (by kernel_rfl) (fun _ _ _ h => h) (Or.inl ⟨by rfl, ?_⟩) ?_
    · intro w
      go_simp
      try exact IntWalk.i64_in _ (by omega)
      try omega
    (first | dsimp only [List.getElem_toArray, List.getElem_cons_succ, List.getElem_cons_zero] | dsimp (maxSteps := 10000000) only [List.getElem_toArray, List.getElem_cons_succ, List.getElem_cons_zero] | skip); (first | go_frame | simp (maxSteps := 10000000) only [Act.put, List.setIfInBounds_toArray, List.set_cons_succ, List.set_cons_zero] | skip)
    refine wpAny_forced (i := 10) (by kernel_rfl) rfl ?_
    (first | dsimp only [List.getElem_toArray, List.getElem_cons_succ, List.getElem_cons_zero] | dsimp (maxSteps := 10000000) only [List.getElem_toArray, List.getElem_cons_succ, List.getElem_cons_zero] | skip); (first | go_frame | simp (maxSteps := 10000000) only [Act.put, List.setIfInBounds_toArray, List.set_cons_succ, List.set_cons_zero] | skip)
    refine wpList_buildSliceR rfl 115 _ _ rfl (.slice (some ⟨w2.heap.size, 0, none⟩) 3 3) (w2.alloc (.cells #[.pointer (some ⟨g, 2, none⟩), .pointer (some ⟨g, 3, none⟩), .pointer (some ⟨g, 4, none⟩)] 118)) (by kernel_rfl) ?_
    refine wpList_nil ?_
    (first | dsimp only [List.getElem_toArray, List.getElem_cons_succ, List.getElem_cons_zero] | dsimp (maxSteps := 10000000) only [List.getElem_toArray, List.getElem_cons_succ, List.getElem_cons_zero] | skip); (first | go_frame | simp (maxSteps := 10000000) only [Act.put, List.setIfInBounds_toArray, List.set_cons_succ, List.set_cons_zero] | skip)
    refine wpAny_forced (i := 11) (by kernel_rfl) rfl ?_
    (first | dsimp only [List.getElem_toArray, List.getElem_cons_succ, List.getElem_cons_zero] | dsimp (maxSteps := 10000000) only [List.getElem_toArray, List.getElem_cons_succ, List.getElem_cons_zero] | skip); (first | go_frame | simp (maxSteps := 10000000) only [Act.put, List.setIfInBounds_toArray, List.set_cons_succ, List.set_cons_zero] | skip)
    refine wpList_app rfl _ _ 115 rfl w.heap.size 118 i0 (.pointer none) 1 8 Tryd.underlying115 hi hz0 hz1 hz2 rfl (by decide) (.slice (some ⟨w.heap.size, 0, none⟩) 2 2) 2 (ptrs g [0, 1]) rfl (Hown.out.alloc _) ⟨w2.heap.size, 0, none⟩ 3 3 (ptrs g [2, 3, 4]) rfl rfl (row_alloc (cs := #[.pointer (some ⟨g, 2, none⟩), .pointer (some ⟨g, 3, none⟩), .pointer (some ⟨g, 4, none⟩)])) (ptrs_one _ _) (by unfold maxLen; omega) (by omega) (by simp; omega) ?_
    intro v' w3 hown hg hat
    refine wpList_nil ?_
    (first | dsimp only [List.getElem_toArray, List.getElem_cons_succ, List.getElem_cons_zero] | dsimp (maxSteps := 10000000) only [List.getElem_toArray, List.getElem_cons_succ, List.getElem_cons_zero] | skip); (first | go_frame | simp (maxSteps := 10000000) only [Act.put, List.setIfInBounds_toArray, List.set_cons_succ, List.set_cons_zero] | skip)
    have HB3 := hid ((HB2.out.alloc hbase (.cells #[.pointer (some ⟨g, 2, none⟩), .pointer (some ⟨g, 3, none⟩), .pointer (some ⟨g, 4, none⟩)] 118)).grown hg (by simp; omega) (fun q hq => by simp [Value.ownBlock] at hq; omega))
    have Hown3 := hid hown
    clear hg hat hown
    refine wpAny_take (i := 12) (v := v') rfl (by kernel_rfl) (by kernel_rfl) (by kernel_rfl) (fun _ _ _ h => h) (Or.inl ⟨by rfl, ?_⟩) ?_
    · intro w
      go_simp
      try exact IntWalk.i64_in _ (by omega)
      try omega
    (first | dsimp only [List.getElem_toArray, List.getElem_cons_succ, List.getElem_cons_zero] | dsimp (maxSteps := 10000000) only [List.getElem_toArray, List.getElem_cons_succ, List.getElem_cons_zero] | skip); (first | go_frame | simp (maxSteps := 10000000) only [Act.put, List.setIfInBounds_toArray, List.set_cons_succ, List.set_cons_zero] | skip)
    refine wpAny_done (by kernel_rfl) ?_ _
    go_wp2
    go_ret
    exact ⟨⟨_, rfl, Hown3.out⟩, HB3.out⟩
  · by_cases h3 : k = 3
    · subst h3
      have := Hat.out; simp at this; subst this
      go_upto_region 7 with fail
      have hown0 := (Blk.new' w1 #[.pointer (some ⟨g, 0, none⟩), .pointer (some ⟨g, 1, none⟩)] 118 hs1.symm).owns (base := w.heap.size) (size := 1) (n := 2) (by omega) (by unfold maxLen; omega) rfl
      refine wp_region_anyw (by kernel_rfl) ?_
      intro w2 he2 hb2
      have Hown := hid (hown0.later hb2)
      have HB2 := hid ((hb1.alloc hb1.size (.cells #[.pointer (some ⟨g, 0, none⟩), .pointer (some ⟨g, 1, none⟩)] 118)).trans (hb2.mono (by simp; omega)))
      have hbase : w.heap.size ≤ w2.heap.size := HB2.out.size
      clear hown0 he2 hb2
      show wpAny _ _ _ _ 10 (Array.replicate 10 false) _ _
      refine wpAny_take (i := 0) (v := .slice (some ⟨w.heap.size, 0, none⟩) 2 2) rfl (by kernel_rfl) (by kernel_rfl) (by kernel_rfl) (fun _ _ _ h => h) (Or.inl ⟨by rfl, ?_⟩) ?_
      · intro w
        go_simp
        try exact IntWalk.i64_in _ (by omega)
        try omega
      (first | dsimp only [List.getElem_toArray, List.getElem_cons_succ, List.getElem_cons_zero] | dsimp (maxSteps := 10000000) only [List.getElem_toArray, List.getElem_cons_succ, List.getElem_cons_zero] | skip); (first | go_frame | simp (maxSteps := 10000000) only [Act.put, List.setIfInBounds_toArray, List.set_cons_succ, List.set_cons_zero] | skip)
      refine wpAny_take (i := 1) (v := .pointer (some ⟨g, 0, none⟩)) rfl (by kernel_rfl) (by kernel_rfl) (by kernel_rfl) (fun _ _ _ h => h) (Or.inl ⟨by rfl, ?_⟩) ?_
      · intro w
        go_simp
        try exact IntWalk.i64_in _ (by omega)
        try omega
      (first | dsimp only [List.getElem_toArray, List.getElem_cons_succ, List.getElem_cons_zero] | dsimp (maxSteps := 10000000) only [List.getElem_toArray, List.getElem_cons_succ, List.getElem_cons_zero] | skip); (first | go_frame | simp (maxSteps := 10000000) only [Act.put, List.setIfInBounds_toArray, List.set_cons_succ, List.set_cons_zero] | skip)
      refine wpAny_take (i := 2) (v := .pointer (some ⟨g, 0, none⟩)) rfl (by kernel_rfl) (by kernel_rfl) (by kernel_rfl) (fun _ _ _ h => h) (Or.inl ⟨by rfl, ?_⟩) ?_
      · intro w
        go_simp
        try exact IntWalk.i64_in _ (by omega)
        try omega
      (first | dsimp only [List.getElem_toArray, List.getElem_cons_succ, List.getElem_cons_zero] | dsimp (maxSteps := 10000000) only [List.getElem_toArray, List.getElem_cons_succ, List.getElem_cons_zero] | skip); (first | go_frame | simp (maxSteps := 10000000) only [Act.put, List.setIfInBounds_toArray, List.set_cons_succ, List.set_cons_zero] | skip)
      refine wpAny_take (i := 3) (v := .pointer (some ⟨g, 2, none⟩)) rfl (by kernel_rfl) (by kernel_rfl) (by kernel_rfl) (fun _ _ _ h => h) (Or.inl ⟨by rfl, ?_⟩) ?_
      · intro w
        go_simp
        try exact IntWalk.i64_in _ (by omega)
        try omega
      (first | dsimp only [List.getElem_toArray, List.getElem_cons_succ, List.getElem_cons_zero] | dsimp (maxSteps := 10000000) only [List.getElem_toArray, List.getElem_cons_succ, List.getElem_cons_zero] | skip); (first | go_frame | simp (maxSteps := 10000000) only [Act.put, List.setIfInBounds_toArray, List.set_cons_succ, List.set_cons_zero] | skip)
      refine wpAny_take (i := 4) (v := .pointer (some ⟨g, 0, none⟩)) rfl (by kernel_rfl) (by kernel_rfl) (by kernel_rfl) (fun _ _ _ h => h) (Or.inl ⟨by rfl, ?_⟩) ?_
      · intro w
        go_simp
        try exact IntWalk.i64_in _ (by omega)
        try omega
      (first | dsimp only [List.getElem_toArray, List.getElem_cons_succ, List.getElem_cons_zero] | dsimp (maxSteps := 10000000) only [List.getElem_toArray, List.getElem_cons_succ, List.getElem_cons_zero] | skip); (first | go_frame | simp (maxSteps := 10000000) only [Act.put, List.setIfInBounds_toArray, List.set_cons_succ, List.set_cons_zero] | skip)
      refine wpAny_take (i := 5) (v := .pointer (some ⟨g, 0, none⟩)) rfl (by kernel_rfl) (by kernel_rfl) (by kernel_rfl) (fun _ _ _ h => h) (Or.inl ⟨by rfl, ?_⟩) ?_
      · intro w
        go_simp
        try exact IntWalk.i64_in _ (by omega)
        try omega
      (first | dsimp only [List.getElem_toArray, List.getElem_cons_succ, List.getElem_cons_zero] | dsimp (maxSteps := 10000000) only [List.getElem_toArray, List.getElem_cons_succ, List.getElem_cons_zero] | skip); (first | go_frame | simp (maxSteps := 10000000) only [Act.put, List.setIfInBounds_toArray, List.set_cons_succ, List.set_cons_zero] | skip)
      refine wpAny_take (i := 6) (v := .pointer (some ⟨g, 4, none⟩)) rfl (by kernel_rfl) (by kernel_rfl) (by kernel_rfl) (fun _ _ _ h => h) (Or.inl ⟨by rfl, ?_⟩) ?_
      · intro w
        go_simp
        try exact IntWalk.i64_in _ (by omega)
        try omega
      (first | dsimp only [List.getElem_toArray, List.getElem_cons_succ, List.getElem_cons_zero] | dsimp (maxSteps := 10000000) only [List.getElem_toArray, List.getElem_cons_succ, List.getElem_cons_zero] | skip); (first | go_frame | simp (maxSteps := 10000000) only [Act.put, List.setIfInBounds_toArray, List.set_cons_succ, List.set_cons_zero] | skip)
      refine wpAny_forced (i := 7) (by kernel_rfl) rfl ?_
      (first | dsimp only [List.getElem_toArray, List.getElem_cons_succ, List.getElem_cons_zero] | dsimp (maxSteps := 10000000) only [List.getElem_toArray, List.getElem_cons_succ, List.getElem_cons_zero] | skip); (first | go_frame | simp (maxSteps := 10000000) only [Act.put, List.setIfInBounds_toArray, List.set_cons_succ, List.set_cons_zero] | skip)
      refine wpList_buildSliceR rfl 115 _ _ rfl (.slice (some ⟨w2.heap.size, 0, none⟩) 2 2) (w2.alloc (.cells #[.pointer (some ⟨g, 2, none⟩), .pointer (some ⟨g, 4, none⟩)] 118)) (by kernel_rfl) ?_
      refine wpList_nil ?_
      (first | dsimp only [List.getElem_toArray, List.getElem_cons_succ, List.getElem_cons_zero] | dsimp (maxSteps := 10000000) only [List.getElem_toArray, List.getElem_cons_succ, List.getElem_cons_zero] | skip); (first | go_frame | simp (maxSteps := 10000000) only [Act.put, List.setIfInBounds_toArray, List.set_cons_succ, List.set_cons_zero] | skip)
      refine wpAny_forced (i := 8) (by kernel_rfl) rfl ?_
      (first | dsimp only [List.getElem_toArray, List.getElem_cons_succ, List.getElem_cons_zero] | dsimp (maxSteps := 10000000) only [List.getElem_toArray, List.getElem_cons_succ, List.getElem_cons_zero] | skip); (first | go_frame | simp (maxSteps := 10000000) only [Act.put, List.setIfInBounds_toArray, List.set_cons_succ, List.set_cons_zero] | skip)
      refine wpList_app rfl _ _ 115 rfl w.heap.size 118 i0 (.pointer none) 1 8 Tryd.underlying115 hi hz0 hz1 hz2 rfl (by decide) (.slice (some ⟨w.heap.size, 0, none⟩) 2 2) 2 (ptrs g [0, 1]) rfl (Hown.out.alloc _) ⟨w2.heap.size, 0, none⟩ 2 2 (ptrs g [2, 4]) rfl rfl (row_alloc (cs := #[.pointer (some ⟨g, 2, none⟩), .pointer (some ⟨g, 4, none⟩)])) (ptrs_one _ _) (by unfold maxLen; omega) (by omega) (by simp; omega) ?_
      intro v' w3 hown hg hat
      refine wpList_nil ?_
      (first | dsimp only [List.getElem_toArray, List.getElem_cons_succ, List.getElem_cons_zero] | dsimp (maxSteps := 10000000) only [List.getElem_toArray, List.getElem_cons_succ, List.getElem_cons_zero] | skip); (first | go_frame | simp (maxSteps := 10000000) only [Act.put, List.setIfInBounds_toArray, List.set_cons_succ, List.set_cons_zero] | skip)
      have HB3 := hid ((HB2.out.alloc hbase (.cells #[.pointer (some ⟨g, 2, none⟩), .pointer (some ⟨g, 4, none⟩)] 118)).grown hg (by simp; omega) (fun q hq => by simp [Value.ownBlock] at hq; omega))
      have Hown3 := hid hown
      clear hg hat hown
      refine wpAny_take (i := 9) (v := v') rfl (by kernel_rfl) (by kernel_rfl) (by kernel_rfl) (fun _ _ _ h => h) (Or.inl ⟨by rfl, ?_⟩) ?_
      · intro w
        go_simp
        try exact IntWalk.i64_in _ (by omega)
        try omega
      (first | dsimp only [List.getElem_toArray, List.getElem_cons_succ, List.getElem_cons_zero] | dsimp (maxSteps := 10000000) only [List.getElem_toArray, List.getElem_cons_succ, List.getElem_cons_zero] | skip); (first | go_frame | simp (maxSteps := 10000000) only [Act.put, List.setIfInBounds_toArray, List.set_cons_succ, List.set_cons_zero] | skip)
      refine wpAny_done (by kernel_rfl) ?_ _
      go_wp2
      go_ret
      exact ⟨⟨_, rfl, Hown3.out⟩, HB3.out⟩
    · by_cases h4 : k = 4
      · subst h4
        have := Hat.out; simp at this; subst this
        go_upto_region 7 with fail
        have hown0 := (Blk.new' w1 #[.pointer (some ⟨g, 0, none⟩), .pointer (some ⟨g, 1, none⟩)] 118 hs1.symm).owns (base := w.heap.size) (size := 1) (n := 2) (by omega) (by unfold maxLen; omega) rfl
        refine wp_region_anyw (by kernel_rfl) ?_
        intro w2 he2 hb2
        have Hown := hid (hown0.later hb2)
        have HB2 := hid ((hb1.alloc hb1.size (.cells #[.pointer (some ⟨g, 0, none⟩), .pointer (some ⟨g, 1, none⟩)] 118)).trans (hb2.mono (by simp; omega)))
        have hbase : w.heap.size ≤ w2.heap.size := HB2.out.size
        clear hown0 he2 hb2
        show wpAny _ _ _ _ 10 (Array.replicate 10 false) _ _
        refine wpAny_take (i := 0) (v := .slice (some ⟨w.heap.size, 0, none⟩) 2 2) rfl (by kernel_rfl) (by kernel_rfl) (by kernel_rfl) (fun _ _ _ h => h) (Or.inl ⟨by rfl, ?_⟩) ?_
        · intro w
          go_simp
          try exact IntWalk.i64_in _ (by omega)
          try omega
        (first | dsimp only [List.getElem_toArray, List.getElem_cons_succ, List.getElem_cons_zero] | dsimp (maxSteps := 10000000) only [List.getElem_toArray, List.getElem_cons_succ, List.getElem_cons_zero] | skip); (first | go_frame | simp (maxSteps := 10000000) only [Act.put, List.setIfInBounds_toArray, List.set_cons_succ, List.set_cons_zero] | skip)
        refine wpAny_take (i := 1) (v := .pointer (some ⟨g, 0, none⟩)) rfl (by kernel_rfl) (by kernel_rfl) (by kernel_rfl) (fun _ _ _ h => h) (Or.inl ⟨by rfl, ?_⟩) ?_
        · intro w
          go_simp
          try exact IntWalk.i64_in _ (by omega)
          try omega
        (first | dsimp only [List.getElem_toArray, List.getElem_cons_succ, List.getElem_cons_zero] | dsimp (maxSteps := 10000000) only [List.getElem_toArray, List.getElem_cons_succ, List.getElem_cons_zero] | skip); (first | go_frame | simp (maxSteps := 10000000) only [Act.put, List.setIfInBounds_toArray, List.set_cons_succ, List.set_cons_zero] | skip)
        refine wpAny_take (i := 2) (v := .pointer (some ⟨g, 0, none⟩)) rfl (by kernel_rfl) (by kernel_rfl) (by kernel_rfl) (fun _ _ _ h => h) (Or.inl ⟨by rfl, ?_⟩) ?_
        · intro w
          go_simp
          try exact IntWalk.i64_in _ (by omega)
          try omega
        (first | dsimp only [List.getElem_toArray, List.getElem_cons_succ, List.getElem_cons_zero] | dsimp (maxSteps := 10000000) only [List.getElem_toArray, List.getElem_cons_succ, List.getElem_cons_zero] | skip); (first | go_frame | simp (maxSteps := 10000000) only [Act.put, List.setIfInBounds_toArray, List.set_cons_succ, List.set_cons_zero] | skip)
        refine wpAny_take (i := 3) (v := .pointer (some ⟨g, 2, none⟩)) rfl (by kernel_rfl) (by kernel_rfl) (by kernel_rfl) (fun _ _ _ h => h) (Or.inl ⟨by rfl, ?_⟩) ?_
        · intro w
          go_simp
          try exact IntWalk.i64_in _ (by omega)
          try omega
        (first | dsimp only [List.getElem_toArray, List.getElem_cons_succ, List.getElem_cons_zero] | dsimp (maxSteps := 10000000) only [List.getElem_toArray, List.getElem_cons_succ, List.getElem_cons_zero] | skip); (first | go_frame | simp (maxSteps := 10000000) only [Act.put, List.setIfInBounds_toArray, List.set_cons_succ, List.set_cons_zero] | skip)
        refine wpAny_take (i := 4) (v := .pointer (some ⟨g, 0, none⟩)) rfl (by kernel_rfl) (by kernel_rfl) (by kernel_rfl) (fun _ _ _ h => h) (Or.inl ⟨by rfl, ?_⟩) ?_
        · intro w
          go_simp
          try exact IntWalk.i64_in _ (by omega)
          try omega
        (first | dsimp only [List.getElem_toArray, List.getElem_cons_succ, List.getElem_cons_zero] | dsimp (maxSteps := 10000000) only [List.getElem_toArray, List.getElem_cons_succ, List.getElem_cons_zero] | skip); (first | go_frame | simp (maxSteps := 10000000) only [Act.put, List.setIfInBounds_toArray, List.set_cons_succ, List.set_cons_zero] | skip)
        refine wpAny_take (i := 5) (v := .pointer (some ⟨g, 0, none⟩)) rfl (by kernel_rfl) (by kernel_rfl) (by kernel_rfl) (fun _ _ _ h => h) (Or.inl ⟨by rfl, ?_⟩) ?_
        · intro w
          go_simp
          try exact IntWalk.i64_in _ (by omega)
          try omega
        (first | dsimp only [List.getElem_toArray, List.getElem_cons_succ, List.getElem_cons_zero] | dsimp (maxSteps := 10000000) only [List.getElem_toArray, List.getElem_cons_succ, List.getElem_cons_zero] | skip); (first | go_frame | simp (maxSteps := 10000000) only [Act.put, List.setIfInBounds_toArray, List.set_cons_succ, List.set_cons_zero] | skip)
        refine wpAny_take (i := 6) (v := .pointer (some ⟨g, 4, none⟩)) rfl (by kernel_rfl) (by kernel_rfl) (by kernel_rfl) (fun _ _ _ h => h) (Or.inl ⟨by rfl, ?_⟩) ?_
        · intro w
          go_simp
          try exact IntWalk.i64_in _ (by omega)
          try omega
        (first | dsimp only [List.getElem_toArray, List.getElem_cons_succ, List.getElem_cons_zero] | dsimp (maxSteps := 10000000) only [List.getElem_toArray, List.getElem_cons_succ, List.getElem_cons_zero] | skip); (first | go_frame | simp (maxSteps := 10000000) only [Act.put, List.setIfInBounds_toArray, List.set_cons_succ, List.set_cons_zero] | skip)
        refine wpAny_forced (i := 7) (by kernel_rfl) rfl ?_
        (first | dsimp only [List.getElem_toArray, List.getElem_cons_succ, List.getElem_cons_zero] | dsimp (maxSteps := 10000000) only [List.getElem_toArray, List.getElem_cons_succ, List.getElem_cons_zero] | skip); (first | go_frame | simp (maxSteps := 10000000) only [Act.put, List.setIfInBounds_toArray, List.set_cons_succ, List.set_cons_zero] | skip)
        refine wpList_buildSliceR rfl 115 _ _ rfl (.slice (some ⟨w2.heap.size, 0, none⟩) 2 2) (w2.alloc (.cells #[.pointer (some ⟨g, 2, none⟩), .pointer (some ⟨g, 4, none⟩)] 118)) (by kernel_rfl) ?_
        refine wpList_nil ?_
        (first | dsimp only [List.getElem_toArray, List.getElem_cons_succ, List.getElem_cons_zero] | dsimp (maxSteps := 10000000) only [List.getElem_toArray, List.getElem_cons_succ, List.getElem_cons_zero] | skip); (first | go_frame | simp (maxSteps := 10000000) only [Act.put, List.setIfInBounds_toArray, List.set_cons_succ, List.set_cons_zero] | skip)
        refine wpAny_forced (i := 8) (by kernel_rfl) rfl ?_
        (first | dsimp only [List.getElem_toArray, List.getElem_cons_succ, List.getElem_cons_zero] | dsimp (maxSteps := 10000000) only [List.getElem_toArray, List.getElem_cons_succ, List.getElem_cons_zero] | skip); (first | go_frame | simp (maxSteps := 10000000) only [Act.put, List.setIfInBounds_toArray, List.set_cons_succ, List.set_cons_zero] | skip)
        refine wpList_app rfl _ _ 115 rfl w.heap.size 118 i0 (.pointer none) 1 8 Tryd.underlying115 hi hz0 hz1 hz2 rfl (by decide) (.slice (some ⟨w.heap.size, 0, none⟩) 2 2) 2 (ptrs g [0, 1]) rfl (Hown.out.alloc _) ⟨w2.heap.size, 0, none⟩ 2 2 (ptrs g [2, 4]) rfl rfl (row_alloc (cs := #[.pointer (some ⟨g, 2, none⟩), .pointer (some ⟨g, 4, none⟩)])) (ptrs_one _ _) (by unfold maxLen; omega) (by omega) (by simp; omega) ?_
        intro v' w3 hown hg hat
        refine wpList_nil ?_
        (first | dsimp only [List.getElem_toArray, List.getElem_cons_succ, List.getElem_cons_zero] | dsimp (maxSteps := 10000000) only [List.getElem_toArray, List.getElem_cons_succ, List.getElem_cons_zero] | skip); (first | go_frame | simp (maxSteps := 10000000) only [Act.put, List.setIfInBounds_toArray, List.set_cons_succ, List.set_cons_zero] | skip)
        have HB3 := hid ((HB2.out.alloc hbase (.cells #[.pointer (some ⟨g, 2, none⟩), .pointer (some ⟨g, 4, none⟩)] 118)).grown hg (by simp; omega) (fun q hq => by simp [Value.ownBlock] at hq; omega))
        have Hown3 := hid hown
        clear hg hat hown
        refine wpAny_take (i := 9) (v := v') rfl (by kernel_rfl) (by kernel_rfl) (by kernel_rfl) (fun _ _ _ h => h) (Or.inl ⟨by rfl, ?_⟩) ?_
        · intro w
          go_simp
          try exact IntWalk.i64_in _ (by omega)
          try omega
        (first | dsimp only [List.getElem_toArray, List.getElem_cons_succ, List.getElem_cons_zero] | dsimp (maxSteps := 10000000) only [List.getElem_toArray, List.getElem_cons_succ, List.getElem_cons_zero] | skip); (first | go_frame | simp (maxSteps := 10000000) only [Act.put, List.setIfInBounds_toArray, List.set_cons_succ, List.set_cons_zero] | skip)
        refine wpAny_done (by kernel_rfl) ?_ _
        go_wp2
        go_ret
        exact ⟨⟨_, rfl, Hown3.out⟩, HB3.out⟩
      · have := Hat.out
        rw [if_neg h2, if_neg (by simp [h3, h4])] at this
        subst this
        have d2 : (k == 2) = false := by simpa using h2
        have d3 : (k == 3) = false := by simpa using h3
        have d4 : (k == 4) = false := by simpa using h4
        clear h2 h3 h4
        go_wp2
        go_ret
        exact ⟨⟨_, rfl, (Blk.new' w1 #[.pointer (some ⟨g, 0, none⟩), .pointer (some ⟨g, 1, none⟩)] 118 hs1.symm).owns (base := w.heap.size) (size := 1) (n := 2) (by omega) (by unfold maxLen; omega) rfl⟩, hb1.alloc hb1.size _⟩
end Go.Proofs.YtbpjlancjdbehaaDoor
/- messages.PutRequest -/
namespace Go.Proofs.YtbpjlancjdbehaaDoor
open Go.RowKit Go.Spec
theorem ptrs_get (g : Nat) (l : List Nat) (k j : Nat) (h : l[k]? = some j) : (ptrs g l)[k]? = some (.pointer (some ⟨g, j, none⟩)) := by
  unfold ptrs
  rw [List.getElem?_map, h]
  rfl
end Go.Proofs.YtbpjlancjdbehaaDoor
/- the document's PutRequest -/
namespace Go.Proofs.YtbpjlancjdbehaaDoor
open Go.RowKit Go.Spec
theorem good_any (z : Int) (w : World) : Calls Tryd.prog 90 #[.int .i64 z] w fun e w' => e = .returned (.bool (goodZ z)) ∧ w' = w := by
  have HG := hid (show goodZ z = (decide (0 ≤ z) && decide (z ≤ 1073741824)) from rfl)
  generalize goodZ z = G at *
  by_cases h0 : 0 ≤ z
  · have d0 : decide (0 ≤ z) = true := decide_eq_true h0
    have e1 := HG.out
    rw [d0, Bool.true_and] at e1
    subst e1
    clear h0 HG
    go_enter Tryd.func90, Tryd.ntmps90
    go_wp2
    go_ret
    exact ⟨rfl, rfl⟩
  · have d0 : decide (0 ≤ z) = false := decide_eq_false h0
    have e1 := HG.out
    rw [d0, Bool.false_and] at e1
    subst e1
    clear h0 HG
    go_enter Tryd.func90, Tryd.ntmps90
    go_wp2
    go_ret
    exact ⟨rfl, rfl⟩
theorem rnumber_any (n : Nat) (w : World) (hn : n < 9223372036854775808) : Calls Tryd.prog 86 #[.int .i64 (n : Int)] w fun e w' => e = .returned (sv (numL n)) ∧ Below w.heap.size w w' := by
  have CM := hid (fun w0 => rnum_any n w0 (by omega))
  go_enter Tryd.func86, Tryd.ntmps86
  go_wp2_with (go_at_call 103; refine (CM.out _).mono ?_; rintro e w4 ⟨rfl, hb4⟩)
  go_ret
  exact ⟨rfl, hb4⟩
def zM (z : Int) : Nat := z.toNat
theorem zM_lt {z : Int} (h : z < 9223372036854775808) : zM z < 9223372036854775808 := by unfold zM; omega
theorem zM_if (z : Int) : (if z < 0 then 0 else z) = (zM z : Int) := by unfold zM; split <;> omega
theorem zM_max (z : Int) : max z 0 = (zM z : Int) := by unfold zM; omega
structure Rq.I64 (r : Rq) : Prop where
  id : r.id < 9223372036854775808
  kind : r.kind < 9223372036854775808
  fr : r.fr < 9223372036854775808
  count : r.count < 9223372036854775808
  size : r.size < 9223372036854775808
set_option maxHeartbeats 4000000 in
theorem rrqput_any (r : Rq) (w : World) (hs : r.I64) :
    Calls Tryd.prog 85 #[r.v] w fun e w' => e = .returned (putR (putRq r)) ∧ Below w.heap.size w w' := by
  have B1 := hid (zM_lt hs.id); have B2 := hid (zM_lt hs.kind); have B3 := hid (zM_lt hs.fr); have B4 := hid (zM_lt hs.count); have B5 := hid (zM_lt hs.size)
  have l1 := numL_len (zM r.id) (by have := B1.out; omega); have l2 := numL_len (zM r.kind) (by have := B2.out; omega); have l3 := numL_len (zM r.fr) (by have := B3.out; omega); have l4 := numL_len (zM r.count) (by have := B4.out; omega); have l5 := numL_len (zM r.size) (by have := B5.out; omega)
  have m1 := zM_if r.id; have m2 := zM_if r.kind; have m3 := zM_if r.fr; have m4 := zM_if r.count; have m5 := zM_if r.size
  have n1 := zM_max r.id; have n2 := zM_max r.kind; have n3 := zM_max r.fr; have n4 := zM_max r.count; have n5 := zM_max r.size
  have HP := hid (show putRq r = if kindB r.kind && r.nums.all goodZ then some (81 :: numsT r.nums) else none from rfl)
  generalize putRq r = PV at *
  obtain ⟨id, K, f, c, s⟩ := r
  simp only at B1 B2 B3 B4 B5 l1 l2 l3 l4 l5 m1 m2 m3 m4 m5 n1 n2 n3 n4 n5
  have Hnums := hid (show numsT [id, K, f, c, s] = numL (zM id) ++ (numL (zM K) ++ (numL (zM f) ++ (numL (zM c) ++ numL (zM s)))) ∧ numsT [id, K, f, s] = numL (zM id) ++ (numL (zM K) ++ (numL (zM f) ++ numL (zM s))) ∧ numsT [id, K] = numL (zM id) ++ numL (zM K) by simp [numsT, zM])
  generalize zM id = M1 at *
  generalize zM K = M2 at *
  generalize zM f = M3 at *
  generalize zM c = M4 at *
  generalize zM s = M5 at *
  clear hs
  go_enter Tryd.func85, Tryd.ntmps85
  go_upto_region 1 with fail
  show Code.wp _ _ _ _ (w.alloc (.cells (Rq.cs ⟨id, K, f, c, s⟩) 61))
  have HB := hid (Blk.new w (Rq.cs ⟨id, K, f, c, s⟩) 61)
  refine wp_world (fun W => Blk W w.heap.size (Rq.cs ⟨id, K, f, c, s⟩) 61 ∧ Below w.heap.size w W ∧ W.heap.size = w.heap.size + 1) ⟨HB.out, (Below.refl _ w).alloc (Nat.le_refl _) _, by simp⟩ ?_
  rintro w0 ⟨HB0, hb0, hsz0⟩
  have HB1 := hid HB0
  clear HB HB0
  generalize hgd : w.heap.size = g at *
  have HGD := hid hgd
  clear hgd
  have N1 := hid (fun w' => rnumber_any M1 w' B1.out); have N2 := hid (fun w' => rnumber_any M2 w' B2.out); have N3 := hid (fun w' => rnumber_any M3 w' B3.out); have N4 := hid (fun w' => rnumber_any M4 w' B4.out); have N5 := hid (fun w' => rnumber_any M5 w' B5.out)
  refine wp_region_later (by kernel_rfl) (by kernel_rfl) ?_
  repeat (first
    | (refine wpQuiet_load_one rfl 3 _ rfl ⟨g, 0, none⟩ rfl (.int .i64 id) _ (by rintro _ ⟨q, rfl⟩; exact (Blk.cell (HB1.out.later (lat_below q)) 0)) Tryd.underlying3 rfl ?_; simp only [Act.put, List.setIfInBounds_toArray, List.set_cons_succ, List.set_cons_zero])
    | (refine wpQuiet_load_one rfl 3 _ rfl ⟨g, 1, none⟩ rfl (.int .i64 K) _ (by rintro _ ⟨q, rfl⟩; exact (Blk.cell (HB1.out.later (lat_below q)) 1)) Tryd.underlying3 rfl ?_; simp only [Act.put, List.setIfInBounds_toArray, List.set_cons_succ, List.set_cons_zero])
    | go_big_quiet_step ((first | (go_at_call 86; with_reducible exact calls_later (N1.out _)) | (go_at_call 86; with_reducible exact calls_later (N2.out _)))))
  refine wpQuiet_nil ?_
  rintro _ ⟨q1, rfl⟩
  have hb1 := lat_below q1
  generalize lat q1 = w1 at *
  have HB2 := hid (HB1.out.later hb1)
  have Hb1 := hid (show Below g w w1 from hb0.trans (hb1.mono (by omega)))
  have c0 : w1.cell? ⟨g, 0, none⟩ = some (.int .i64 id) := Blk.cell HB2.out 0
  have c1 : w1.cell? ⟨g, 1, none⟩ = some (.int .i64 K) := Blk.cell HB2.out 1
  have c2 : w1.cell? ⟨g, 2, none⟩ = some (.int .i64 f) := Blk.cell HB2.out 2
  have c3 : w1.cell? ⟨g, 3, none⟩ = some (.int .i64 c) := Blk.cell HB2.out 3
  have c4 : w1.cell? ⟨g, 4, none⟩ = some (.int .i64 s) := Blk.cell HB2.out 4
  have hgw : g ≤ w1.heap.size := by have := hb1.size; omega
  clear hb1 HB1 hb0 hsz0
  rcases (show K = 1 ∨ K = 5 ∨ K = 2 ∨ K = 3 ∨ K = 4 ∨ kindB K = false by
    cases h : kindB K with
    | false => simp
    | true => have := kindB_iff.1 h; omega) with hK | hK | hK | hK | hK | hK
  · subst hK
    have e0 := HP.out
    rw [show (Rq.mk id 1 f c s).nums = [id, 1] from rfl] at e0
    have Hnk := hid (Hnums.out.2.2)
    clear Hnums m2
    cases h_id : goodZ id with
    | false =>
      have E := hid (show PV = none by rw [e0]; simp [List.all_cons, h_id])
      clear e0 HP
      go_wp2_with (go_at_call 90; refine (good_any _ _).mono ?_; rintro e w9 ⟨rfl, rfl⟩)
      go_ret2
      exact ⟨by rw [E.out]; rfl, (by rw [HGD.out]; exact Hb1.out)⟩
    | true =>
      have E := hid (show PV = some (81 :: numsT [id, 1]) by rw [e0]; simp [List.all_cons, kindB, h_id, show goodZ 1 = true from rfl])
      clear e0 HP
      go_wp2_with (go_at_call 90; refine (good_any _ _).mono ?_; rintro e w9 ⟨rfl, rfl⟩)
      go_ret2
      exact ⟨by rw [E.out, Hnk.out]; simp [putR], (by rw [HGD.out]; exact Hb1.out)⟩
  · subst hK
    have e0 := HP.out
    rw [show (Rq.mk id 5 f c s).nums = [id, 5] from rfl] at e0
    have Hnk := hid (Hnums.out.2.2)
    clear Hnums m2
    cases h_id : goodZ id with
    | false =>
      have E := hid (show PV = none by rw [e0]; simp [List.all_cons, h_id])
      clear e0 HP
      go_wp2_with (go_at_call 90; refine (good_any _ _).mono ?_; rintro e w9 ⟨rfl, rfl⟩)
      go_ret2
      exact ⟨by rw [E.out]; rfl, (by rw [HGD.out]; exact Hb1.out)⟩
    | true =>
      have E := hid (show PV = some (81 :: numsT [id, 5]) by rw [e0]; simp [List.all_cons, kindB, h_id, show goodZ 5 = true from rfl])
      clear e0 HP
      go_wp2_with (go_at_call 90; refine (good_any _ _).mono ?_; rintro e w9 ⟨rfl, rfl⟩)
      go_ret2
      exact ⟨by rw [E.out, Hnk.out]; simp [putR], (by rw [HGD.out]; exact Hb1.out)⟩
  · subst hK
    have e0 := HP.out
    rw [show (Rq.mk id 2 f c s).nums = [id, 2, f, c, s] from rfl] at e0
    have Hnk := hid (Hnums.out.1)
    clear Hnums m2
    cases h_id : goodZ id with
    | false =>
      have E := hid (show PV = none by rw [e0]; simp [List.all_cons, h_id])
      clear e0 HP
      go_upto_region 9 with (go_at_call 90; refine (good_any _ _).mono ?_; rintro e w9 ⟨rfl, rfl⟩)
      refine wp_region_later (by kernel_rfl) (by kernel_rfl) ?_
      repeat (first
        | (refine wpQuiet_load_one rfl 3 _ rfl ⟨g, 2, none⟩ rfl (.int .i64 f) _ (by rintro _ ⟨q, rfl⟩; exact (Blk.cell (HB2.out.later (lat_below q)) 2)) Tryd.underlying3 rfl ?_; simp only [Act.put, List.setIfInBounds_toArray, List.set_cons_succ, List.set_cons_zero])
        | (refine wpQuiet_load_one rfl 3 _ rfl ⟨g, 3, none⟩ rfl (.int .i64 c) _ (by rintro _ ⟨q, rfl⟩; exact (Blk.cell (HB2.out.later (lat_below q)) 3)) Tryd.underlying3 rfl ?_; simp only [Act.put, List.setIfInBounds_toArray, List.set_cons_succ, List.set_cons_zero])
        | (refine wpQuiet_load_one rfl 3 _ rfl ⟨g, 4, none⟩ rfl (.int .i64 s) _ (by rintro _ ⟨q, rfl⟩; exact (Blk.cell (HB2.out.later (lat_below q)) 4)) Tryd.underlying3 rfl ?_; simp only [Act.put, List.setIfInBounds_toArray, List.set_cons_succ, List.set_cons_zero])
        | go_big_quiet_step ((first | (go_at_call 86; with_reducible exact calls_later (N3.out _)) | (go_at_call 86; with_reducible exact calls_later (N4.out _)) | (go_at_call 86; with_reducible exact calls_later (N5.out _)))))
      refine wpQuiet_nil ?_
      rintro _ ⟨q3, rfl⟩
      have hb3 := lat_below q3
      generalize lat q3 = w3 at *
      go_wp2
      go_ret2
      exact ⟨by rw [E.out]; rfl, (by rw [HGD.out]; exact Hb1.out.trans (hb3.mono hgw))⟩
    | true =>
      cases h_f : goodZ f with
      | false =>
        have E := hid (show PV = none by rw [e0]; simp [List.all_cons, h_f])
        clear e0 HP
        go_upto_region 9 with (go_at_call 90; refine (good_any _ _).mono ?_; rintro e w9 ⟨rfl, rfl⟩)
        refine wp_region_later (by kernel_rfl) (by kernel_rfl) ?_
        repeat (first
          | (refine wpQuiet_load_one rfl 3 _ rfl ⟨g, 2, none⟩ rfl (.int .i64 f) _ (by rintro _ ⟨q, rfl⟩; exact (Blk.cell (HB2.out.later (lat_below q)) 2)) Tryd.underlying3 rfl ?_; simp only [Act.put, List.setIfInBounds_toArray, List.set_cons_succ, List.set_cons_zero])
          | (refine wpQuiet_load_one rfl 3 _ rfl ⟨g, 3, none⟩ rfl (.int .i64 c) _ (by rintro _ ⟨q, rfl⟩; exact (Blk.cell (HB2.out.later (lat_below q)) 3)) Tryd.underlying3 rfl ?_; simp only [Act.put, List.setIfInBounds_toArray, List.set_cons_succ, List.set_cons_zero])
          | (refine wpQuiet_load_one rfl 3 _ rfl ⟨g, 4, none⟩ rfl (.int .i64 s) _ (by rintro _ ⟨q, rfl⟩; exact (Blk.cell (HB2.out.later (lat_below q)) 4)) Tryd.underlying3 rfl ?_; simp only [Act.put, List.setIfInBounds_toArray, List.set_cons_succ, List.set_cons_zero])
          | go_big_quiet_step ((first | (go_at_call 86; with_reducible exact calls_later (N3.out _)) | (go_at_call 86; with_reducible exact calls_later (N4.out _)) | (go_at_call 86; with_reducible exact calls_later (N5.out _)))))
        refine wpQuiet_nil ?_
        rintro _ ⟨q3, rfl⟩
        have hb3 := lat_below q3
        generalize lat q3 = w3 at *
        go_wp2
        go_ret2
        exact ⟨by rw [E.out]; rfl, (by rw [HGD.out]; exact Hb1.out.trans (hb3.mono hgw))⟩
      | true =>
        cases h_c : goodZ c with
        | false =>
          have E := hid (show PV = none by rw [e0]; simp [List.all_cons, h_c])
          clear e0 HP
          go_upto_region 9 with (go_at_call 90; refine (good_any _ _).mono ?_; rintro e w9 ⟨rfl, rfl⟩)
          refine wp_region_later (by kernel_rfl) (by kernel_rfl) ?_
          repeat (first
            | (refine wpQuiet_load_one rfl 3 _ rfl ⟨g, 2, none⟩ rfl (.int .i64 f) _ (by rintro _ ⟨q, rfl⟩; exact (Blk.cell (HB2.out.later (lat_below q)) 2)) Tryd.underlying3 rfl ?_; simp only [Act.put, List.setIfInBounds_toArray, List.set_cons_succ, List.set_cons_zero])
            | (refine wpQuiet_load_one rfl 3 _ rfl ⟨g, 3, none⟩ rfl (.int .i64 c) _ (by rintro _ ⟨q, rfl⟩; exact (Blk.cell (HB2.out.later (lat_below q)) 3)) Tryd.underlying3 rfl ?_; simp only [Act.put, List.setIfInBounds_toArray, List.set_cons_succ, List.set_cons_zero])
            | (refine wpQuiet_load_one rfl 3 _ rfl ⟨g, 4, none⟩ rfl (.int .i64 s) _ (by rintro _ ⟨q, rfl⟩; exact (Blk.cell (HB2.out.later (lat_below q)) 4)) Tryd.underlying3 rfl ?_; simp only [Act.put, List.setIfInBounds_toArray, List.set_cons_succ, List.set_cons_zero])
            | go_big_quiet_step ((first | (go_at_call 86; with_reducible exact calls_later (N3.out _)) | (go_at_call 86; with_reducible exact calls_later (N4.out _)) | (go_at_call 86; with_reducible exact calls_later (N5.out _)))))
          refine wpQuiet_nil ?_
          rintro _ ⟨q3, rfl⟩
          have hb3 := lat_below q3
          generalize lat q3 = w3 at *
          go_wp2
          go_ret2
          exact ⟨by rw [E.out]; rfl, (by rw [HGD.out]; exact Hb1.out.trans (hb3.mono hgw))⟩
        | true =>
          cases h_s : goodZ s with
          | false =>
            have E := hid (show PV = none by rw [e0]; simp [List.all_cons, h_s])
            clear e0 HP
            go_upto_region 9 with (go_at_call 90; refine (good_any _ _).mono ?_; rintro e w9 ⟨rfl, rfl⟩)
            refine wp_region_later (by kernel_rfl) (by kernel_rfl) ?_
            repeat (first
              | (refine wpQuiet_load_one rfl 3 _ rfl ⟨g, 2, none⟩ rfl (.int .i64 f) _ (by rintro _ ⟨q, rfl⟩; exact (Blk.cell (HB2.out.later (lat_below q)) 2)) Tryd.underlying3 rfl ?_; simp only [Act.put, List.setIfInBounds_toArray, List.set_cons_succ, List.set_cons_zero])
              | (refine wpQuiet_load_one rfl 3 _ rfl ⟨g, 3, none⟩ rfl (.int .i64 c) _ (by rintro _ ⟨q, rfl⟩; exact (Blk.cell (HB2.out.later (lat_below q)) 3)) Tryd.underlying3 rfl ?_; simp only [Act.put, List.setIfInBounds_toArray, List.set_cons_succ, List.set_cons_zero])
              | (refine wpQuiet_load_one rfl 3 _ rfl ⟨g, 4, none⟩ rfl (.int .i64 s) _ (by rintro _ ⟨q, rfl⟩; exact (Blk.cell (HB2.out.later (lat_below q)) 4)) Tryd.underlying3 rfl ?_; simp only [Act.put, List.setIfInBounds_toArray, List.set_cons_succ, List.set_cons_zero])
              | go_big_quiet_step ((first | (go_at_call 86; with_reducible exact calls_later (N3.out _)) | (go_at_call 86; with_reducible exact calls_later (N4.out _)) | (go_at_call 86; with_reducible exact calls_later (N5.out _)))))
            refine wpQuiet_nil ?_
            rintro _ ⟨q3, rfl⟩
            have hb3 := lat_below q3
            generalize lat q3 = w3 at *
            go_wp2
            go_ret2
            exact ⟨by rw [E.out]; rfl, (by rw [HGD.out]; exact Hb1.out.trans (hb3.mono hgw))⟩
          | true =>
            have E := hid (show PV = some (81 :: numsT [id, 2, f, c, s]) by rw [e0]; simp [List.all_cons, kindB, h_id, h_f, h_c, h_s, show goodZ 2 = true from rfl])
            clear e0 HP
            go_upto_region 9 with (go_at_call 90; refine (good_any _ _).mono ?_; rintro e w9 ⟨rfl, rfl⟩)
            refine wp_region_later (by kernel_rfl) (by kernel_rfl) ?_
            repeat (first
              | (refine wpQuiet_load_one rfl 3 _ rfl ⟨g, 2, none⟩ rfl (.int .i64 f) _ (by rintro _ ⟨q, rfl⟩; exact (Blk.cell (HB2.out.later (lat_below q)) 2)) Tryd.underlying3 rfl ?_; simp only [Act.put, List.setIfInBounds_toArray, List.set_cons_succ, List.set_cons_zero])
              | (refine wpQuiet_load_one rfl 3 _ rfl ⟨g, 3, none⟩ rfl (.int .i64 c) _ (by rintro _ ⟨q, rfl⟩; exact (Blk.cell (HB2.out.later (lat_below q)) 3)) Tryd.underlying3 rfl ?_; simp only [Act.put, List.setIfInBounds_toArray, List.set_cons_succ, List.set_cons_zero])
              | (refine wpQuiet_load_one rfl 3 _ rfl ⟨g, 4, none⟩ rfl (.int .i64 s) _ (by rintro _ ⟨q, rfl⟩; exact (Blk.cell (HB2.out.later (lat_below q)) 4)) Tryd.underlying3 rfl ?_; simp only [Act.put, List.setIfInBounds_toArray, List.set_cons_succ, List.set_cons_zero])
              | go_big_quiet_step ((first | (go_at_call 86; with_reducible exact calls_later (N3.out _)) | (go_at_call 86; with_reducible exact calls_later (N4.out _)) | (go_at_call 86; with_reducible exact calls_later (N5.out _)))))
            refine wpQuiet_nil ?_
            rintro _ ⟨q3, rfl⟩
            have hb3 := lat_below q3
            generalize lat q3 = w3 at *
            go_wp2
            go_ret2
            exact ⟨by rw [E.out, Hnk.out]; simp [putR], (by rw [HGD.out]; exact Hb1.out.trans (hb3.mono hgw))⟩
  · subst hK
    have e0 := HP.out
    rw [show (Rq.mk id 3 f c s).nums = [id, 3, f, s] from rfl] at e0
    have Hnk := hid (Hnums.out.2.1)
    clear Hnums m2
    cases h_id : goodZ id with
    | false =>
      have E := hid (show PV = none by rw [e0]; simp [List.all_cons, h_id])
      clear e0 HP
      go_upto_region 13 with (go_at_call 90; refine (good_any _ _).mono ?_; rintro e w9 ⟨rfl, rfl⟩)
      refine wp_region_later (by kernel_rfl) (by kernel_rfl) ?_
      repeat (first
        | (refine wpQuiet_load_one rfl 3 _ rfl ⟨g, 2, none⟩ rfl (.int .i64 f) _ (by rintro _ ⟨q, rfl⟩; exact (Blk.cell (HB2.out.later (lat_below q)) 2)) Tryd.underlying3 rfl ?_; simp only [Act.put, List.setIfInBounds_toArray, List.set_cons_succ, List.set_cons_zero])
        | (refine wpQuiet_load_one rfl 3 _ rfl ⟨g, 4, none⟩ rfl (.int .i64 s) _ (by rintro _ ⟨q, rfl⟩; exact (Blk.cell (HB2.out.later (lat_below q)) 4)) Tryd.underlying3 rfl ?_; simp only [Act.put, List.setIfInBounds_toArray, List.set_cons_succ, List.set_cons_zero])
        | go_big_quiet_step ((first | (go_at_call 86; with_reducible exact calls_later (N3.out _)) | (go_at_call 86; with_reducible exact calls_later (N5.out _)))))
      refine wpQuiet_nil ?_
      rintro _ ⟨q3, rfl⟩
      have hb3 := lat_below q3
      generalize lat q3 = w3 at *
      go_wp2
      go_ret2
      exact ⟨by rw [E.out]; rfl, (by rw [HGD.out]; exact Hb1.out.trans (hb3.mono hgw))⟩
    | true =>
      cases h_f : goodZ f with
      | false =>
        have E := hid (show PV = none by rw [e0]; simp [List.all_cons, h_f])
        clear e0 HP
        go_upto_region 13 with (go_at_call 90; refine (good_any _ _).mono ?_; rintro e w9 ⟨rfl, rfl⟩)
        refine wp_region_later (by kernel_rfl) (by kernel_rfl) ?_
        repeat (first
          | (refine wpQuiet_load_one rfl 3 _ rfl ⟨g, 2, none⟩ rfl (.int .i64 f) _ (by rintro _ ⟨q, rfl⟩; exact (Blk.cell (HB2.out.later (lat_below q)) 2)) Tryd.underlying3 rfl ?_; simp only [Act.put, List.setIfInBounds_toArray, List.set_cons_succ, List.set_cons_zero])
          | (refine wpQuiet_load_one rfl 3 _ rfl ⟨g, 4, none⟩ rfl (.int .i64 s) _ (by rintro _ ⟨q, rfl⟩; exact (Blk.cell (HB2.out.later (lat_below q)) 4)) Tryd.underlying3 rfl ?_; simp only [Act.put, List.setIfInBounds_toArray, List.set_cons_succ, List.set_cons_zero])
          | go_big_quiet_step ((first | (go_at_call 86; with_reducible exact calls_later (N3.out _)) | (go_at_call 86; with_reducible exact calls_later (N5.out _)))))
        refine wpQuiet_nil ?_
        rintro _ ⟨q3, rfl⟩
        have hb3 := lat_below q3
        generalize lat q3 = w3 at *
        go_wp2
        go_ret2
        exact ⟨by rw [E.out]; rfl, (by rw [HGD.out]; exact Hb1.out.trans (hb3.mono hgw))⟩
      | true =>
        cases h_s : goodZ s with
        | false =>
          have E := hid (show PV = none by rw [e0]; simp [List.all_cons, h_s])
          clear e0 HP
          go_upto_region 13 with (go_at_call 90; refine (good_any _ _).mono ?_; rintro e w9 ⟨rfl, rfl⟩)
          refine wp_region_later (by kernel_rfl) (by kernel_rfl) ?_
          repeat (first
            | (refine wpQuiet_load_one rfl 3 _ rfl ⟨g, 2, none⟩ rfl (.int .i64 f) _ (by rintro _ ⟨q, rfl⟩; exact (Blk.cell (HB2.out.later (lat_below q)) 2)) Tryd.underlying3 rfl ?_; simp only [Act.put, List.setIfInBounds_toArray, List.set_cons_succ, List.set_cons_zero])
            | (refine wpQuiet_load_one rfl 3 _ rfl ⟨g, 4, none⟩ rfl (.int .i64 s) _ (by rintro _ ⟨q, rfl⟩; exact (Blk.cell (HB2.out.later (lat_below q)) 4)) Tryd.underlying3 rfl ?_; simp only [Act.put, List.setIfInBounds_toArray, List.set_cons_succ, List.set_cons_zero])
            | go_big_quiet_step ((first | (go_at_call 86; with_reducible exact calls_later (N3.out _)) | (go_at_call 86; with_reducible exact calls_later (N5.out _)))))
          refine wpQuiet_nil ?_
          rintro _ ⟨q3, rfl⟩
          have hb3 := lat_below q3
          generalize lat q3 = w3 at *
          go_wp2
          go_ret2
          exact ⟨by rw [E.out]; rfl, (by rw [HGD.out]; exact Hb1.out.trans (hb3.mono hgw))⟩
        | true =>
          have E := hid (show PV = some (81 :: numsT [id, 3, f, s]) by rw [e0]; simp [List.all_cons, kindB, h_id, h_f, h_s, show goodZ 3 = true from rfl])
          clear e0 HP
          go_upto_region 13 with (go_at_call 90; refine (good_any _ _).mono ?_; rintro e w9 ⟨rfl, rfl⟩)
          refine wp_region_later (by kernel_rfl) (by kernel_rfl) ?_
          repeat (first
            | (refine wpQuiet_load_one rfl 3 _ rfl ⟨g, 2, none⟩ rfl (.int .i64 f) _ (by rintro _ ⟨q, rfl⟩; exact (Blk.cell (HB2.out.later (lat_below q)) 2)) Tryd.underlying3 rfl ?_; simp only [Act.put, List.setIfInBounds_toArray, List.set_cons_succ, List.set_cons_zero])
            | (refine wpQuiet_load_one rfl 3 _ rfl ⟨g, 4, none⟩ rfl (.int .i64 s) _ (by rintro _ ⟨q, rfl⟩; exact (Blk.cell (HB2.out.later (lat_below q)) 4)) Tryd.underlying3 rfl ?_; simp only [Act.put, List.setIfInBounds_toArray, List.set_cons_succ, List.set_cons_zero])
            | go_big_quiet_step ((first | (go_at_call 86; with_reducible exact calls_later (N3.out _)) | (go_at_call 86; with_reducible exact calls_later (N5.out _)))))
          refine wpQuiet_nil ?_
          rintro _ ⟨q3, rfl⟩
          have hb3 := lat_below q3
          generalize lat q3 = w3 at *
          go_wp2
          go_ret2
          exact ⟨by rw [E.out, Hnk.out]; simp [putR], (by rw [HGD.out]; exact Hb1.out.trans (hb3.mono hgw))⟩
  · subst hK
    have e0 := HP.out
    rw [show (Rq.mk id 4 f c s).nums = [id, 4, f, s] from rfl] at e0
    have Hnk := hid (Hnums.out.2.1)
    clear Hnums m2
    cases h_id : goodZ id with
    | false =>
      have E := hid (show PV = none by rw [e0]; simp [List.all_cons, h_id])
      clear e0 HP
      go_upto_region 13 with (go_at_call 90; refine (good_any _ _).mono ?_; rintro e w9 ⟨rfl, rfl⟩)
      refine wp_region_later (by kernel_rfl) (by kernel_rfl) ?_
      repeat (first
        | (refine wpQuiet_load_one rfl 3 _ rfl ⟨g, 2, none⟩ rfl (.int .i64 f) _ (by rintro _ ⟨q, rfl⟩; exact (Blk.cell (HB2.out.later (lat_below q)) 2)) Tryd.underlying3 rfl ?_; simp only [Act.put, List.setIfInBounds_toArray, List.set_cons_succ, List.set_cons_zero])
        | (refine wpQuiet_load_one rfl 3 _ rfl ⟨g, 4, none⟩ rfl (.int .i64 s) _ (by rintro _ ⟨q, rfl⟩; exact (Blk.cell (HB2.out.later (lat_below q)) 4)) Tryd.underlying3 rfl ?_; simp only [Act.put, List.setIfInBounds_toArray, List.set_cons_succ, List.set_cons_zero])
        | go_big_quiet_step ((first | (go_at_call 86; with_reducible exact calls_later (N3.out _)) | (go_at_call 86; with_reducible exact calls_later (N5.out _)))))
      refine wpQuiet_nil ?_
      rintro _ ⟨q3, rfl⟩
      have hb3 := lat_below q3
      generalize lat q3 = w3 at *
      go_wp2
      go_ret2
      exact ⟨by rw [E.out]; rfl, (by rw [HGD.out]; exact Hb1.out.trans (hb3.mono hgw))⟩
    | true =>
      cases h_f : goodZ f with
      | false =>
        have E := hid (show PV = none by rw [e0]; simp [List.all_cons, h_f])
        clear e0 HP
        go_upto_region 13 with (go_at_call 90; refine (good_any _ _).mono ?_; rintro e w9 ⟨rfl, rfl⟩)
        refine wp_region_later (by kernel_rfl) (by kernel_rfl) ?_
        repeat (first
          | (refine wpQuiet_load_one rfl 3 _ rfl ⟨g, 2, none⟩ rfl (.int .i64 f) _ (by rintro _ ⟨q, rfl⟩; exact (Blk.cell (HB2.out.later (lat_below q)) 2)) Tryd.underlying3 rfl ?_; simp only [Act.put, List.setIfInBounds_toArray, List.set_cons_succ, List.set_cons_zero])
          | (refine wpQuiet_load_one rfl 3 _ rfl ⟨g, 4, none⟩ rfl (.int .i64 s) _ (by rintro _ ⟨q, rfl⟩; exact (Blk.cell (HB2.out.later (lat_below q)) 4)) Tryd.underlying3 rfl ?_; simp only [Act.put, List.setIfInBounds_toArray, List.set_cons_succ, List.set_cons_zero])
          | go_big_quiet_step ((first | (go_at_call 86; with_reducible exact calls_later (N3.out _)) | (go_at_call 86; with_reducible exact calls_later (N5.out _)))))
        refine wpQuiet_nil ?_
        rintro _ ⟨q3, rfl⟩
        have hb3 := lat_below q3
        generalize lat q3 = w3 at *
        go_wp2
        go_ret2
        exact ⟨by rw [E.out]; rfl, (by rw [HGD.out]; exact Hb1.out.trans (hb3.mono hgw))⟩
      | true =>
        cases h_s : goodZ s with
        | false =>
          have E := hid (show PV = none by rw [e0]; simp [List.all_cons, h_s])
          clear e0 HP
          go_upto_region 13 with (go_at_call 90; refine (good_any _ _).mono ?_; rintro e w9 ⟨rfl, rfl⟩)
          refine wp_region_later (by kernel_rfl) (by kernel_rfl) ?_
          repeat (first
            | (refine wpQuiet_load_one rfl 3 _ rfl ⟨g, 2, none⟩ rfl (.int .i64 f) _ (by rintro _ ⟨q, rfl⟩; exact (Blk.cell (HB2.out.later (lat_below q)) 2)) Tryd.underlying3 rfl ?_; simp only [Act.put, List.setIfInBounds_toArray, List.set_cons_succ, List.set_cons_zero])
            | (refine wpQuiet_load_one rfl 3 _ rfl ⟨g, 4, none⟩ rfl (.int .i64 s) _ (by rintro _ ⟨q, rfl⟩; exact (Blk.cell (HB2.out.later (lat_below q)) 4)) Tryd.underlying3 rfl ?_; simp only [Act.put, List.setIfInBounds_toArray, List.set_cons_succ, List.set_cons_zero])
            | go_big_quiet_step ((first | (go_at_call 86; with_reducible exact calls_later (N3.out _)) | (go_at_call 86; with_reducible exact calls_later (N5.out _)))))
          refine wpQuiet_nil ?_
          rintro _ ⟨q3, rfl⟩
          have hb3 := lat_below q3
          generalize lat q3 = w3 at *
          go_wp2
          go_ret2
          exact ⟨by rw [E.out]; rfl, (by rw [HGD.out]; exact Hb1.out.trans (hb3.mono hgw))⟩
        | true =>
          have E := hid (show PV = some (81 :: numsT [id, 4, f, s]) by rw [e0]; simp [List.all_cons, kindB, h_id, h_f, h_s, show goodZ 4 = true from rfl])
          clear e0 HP
          go_upto_region 13 with (go_at_call 90; refine (good_any _ _).mono ?_; rintro e w9 ⟨rfl, rfl⟩)
          refine wp_region_later (by kernel_rfl) (by kernel_rfl) ?_
          repeat (first
            | (refine wpQuiet_load_one rfl 3 _ rfl ⟨g, 2, none⟩ rfl (.int .i64 f) _ (by rintro _ ⟨q, rfl⟩; exact (Blk.cell (HB2.out.later (lat_below q)) 2)) Tryd.underlying3 rfl ?_; simp only [Act.put, List.setIfInBounds_toArray, List.set_cons_succ, List.set_cons_zero])
            | (refine wpQuiet_load_one rfl 3 _ rfl ⟨g, 4, none⟩ rfl (.int .i64 s) _ (by rintro _ ⟨q, rfl⟩; exact (Blk.cell (HB2.out.later (lat_below q)) 4)) Tryd.underlying3 rfl ?_; simp only [Act.put, List.setIfInBounds_toArray, List.set_cons_succ, List.set_cons_zero])
            | go_big_quiet_step ((first | (go_at_call 86; with_reducible exact calls_later (N3.out _)) | (go_at_call 86; with_reducible exact calls_later (N5.out _)))))
          refine wpQuiet_nil ?_
          rintro _ ⟨q3, rfl⟩
          have hb3 := lat_below q3
          generalize lat q3 = w3 at *
          go_wp2
          go_ret2
          exact ⟨by rw [E.out, Hnk.out]; simp [putR], (by rw [HGD.out]; exact Hb1.out.trans (hb3.mono hgw))⟩
  · have E := hid (show PV = none by rw [HP.out, hK]; rfl)
    have hk := mt kindB_iff.2 (by rw [hK]; simp : ¬ kindB K = true)
    have d1 : (K == 1) = false := by simp; omega
    have d2 : (K == 2) = false := by simp; omega
    have d3 : (K == 3) = false := by simp; omega
    have d4 : (K == 4) = false := by simp; omega
    have d5 : (K == 5) = false := by simp; omega
    clear hk hK HP Hnums m1 m2 m3 m4 m5
    go_wp2_with (go_at_call 90; refine (good_any _ _).mono ?_; rintro e w9 ⟨rfl, rfl⟩)
    go_ret2
    exact ⟨by rw [E.out]; rfl, (by rw [HGD.out]; exact Hb1.out)⟩
end Go.Proofs.YtbpjlancjdbehaaDoor
