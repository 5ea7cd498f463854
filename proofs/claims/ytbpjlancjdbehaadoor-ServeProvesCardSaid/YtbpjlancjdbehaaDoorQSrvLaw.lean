/- serve: a source and what is answered, plain -/
import Derived.Test.YtbpjlancjdbehaaDoorQAnyOp
import Derived.Test.YtbpjlancjdbehaaDoorQMsgSigned
import Derived.Test.YtbpjlancjdbehaaDoorQPProofA
import Derived.Test.YtbpjlancjdbehaaDoorQRqGet
import Derived.Test.YtbpjlancjdbehaaDoorQSg
import Derived.Test.YtbpjlancjdbehaaDoorQSlices

set_option maxRecDepth 100000
namespace Go.Proofs.YtbpjlancjdbehaaDoor
open Go.RowKit Go.Spec
/-- a source -/
structure Src where
  entries : List (List UInt8)
  leaves : List (List UInt8)
  head : List SgK
  fork : List SgK
def srcC (ve vl vh vf : Value) : Array Value := #[ve, vl, vh, vf]
/-- a source, where it lies -/
structure SrcIn (w : World) (S : Src) (ve vl vh vf : Value) (hd fd : List Sg) : Prop where
  entries : StrsAt w ve S.entries
  leaves : SlAt w 32 vl (hcs S.leaves)
  head : SgsAt w vh hd
  fork : SgsAt w vf fd
  hk : hd.map Sg.k = S.head
  fk : fd.map Sg.k = S.fork
theorem SrcIn.below {w w' : World} {S : Src} {ve vl vh vf : Value} {hd fd : List Sg} (h : SrcIn w S ve vl vh vf hd fd) (hb : Below w.heap.size w w') : SrcIn w' S ve vl vh vf hd fd :=
  ⟨h.entries.below hb, h.leaves.below hb (Nat.le_refl _), h.head.below hb, h.fork.below hb, h.hk, h.fk⟩
structure SrcSmall (S : Src) : Prop where
  e1 : S.entries.length ≤ 60
  e2 : ∀ t ∈ S.entries, t.length ≤ 300
  l1 : S.leaves.length ≤ 80
  h1 : S.head.length ≤ 3
  f1 : S.fork.length ≤ 3
/-- how many entries are served -/
def sizeS (S : Src) : Int := match S.head with
  | [k] => if 0 ≤ k.1 ∧ k.1 ≤ S.entries.length ∧ k.1 ≤ S.leaves.length then k.1 else 0
  | _ => 0
theorem sizeS_in (S : Src) : 0 ≤ sizeS S ∧ sizeS S ≤ S.entries.length ∧ sizeS S ≤ S.leaves.length := by
  unfold sizeS
  split
  · split
    · assumption
    · omega
  · omega
def failRp (id e : Int) : RpK := ⟨id, 1, e, [], [], []⟩
def entRp (S : Src) (r : Rq) : RpK :=
  if r.count < 1 ∨ 16 < r.count ∨ r.fr < 0 then failRp r.id 2
  else if sizeS S < r.size ∨ r.size < r.count ∨ r.size - r.count < r.fr then failRp r.id 82
  else ⟨r.id, 3, 0, [], (S.entries.take (r.fr + r.count).toNat).drop r.fr.toNat, rprX (S.leaves.take r.size.toNat) (r.fr + r.count)⟩
/-- what is answered -/
def ansRp (S : Src) (r : Rq) : RpK :=
  if r.kind = 1 then (if S.head.length = 1 then ⟨r.id, 2, 0, S.head, [], []⟩ else failRp r.id 4)
  else if r.kind = 5 then (if S.fork.length = 2 then ⟨r.id, 5, 0, S.fork, [], []⟩ else failRp r.id 4)
  else if r.kind = 2 then entRp S r
  else if r.kind = 3 then (if sizeS S < r.size ∨ r.fr < 0 ∨ r.size ≤ r.fr then failRp r.id 82 else ⟨r.id, 4, 0, [], [], pathX (S.leaves.take r.size.toNat) r.fr⟩)
  else if r.kind = 4 then (if sizeS S < r.size ∨ r.fr < 0 ∨ r.size < r.fr then failRp r.id 82 else ⟨r.id, 4, 0, [], [], rprX (S.leaves.take r.size.toNat) r.fr⟩)
  else failRp r.id 2
theorem rprX_le (l : List (List UInt8)) (m : Int) : (rprX l m).length ≤ l.length := by
  unfold rprX
  split
  · exact sub_len1 l.length l m.toNat true (Nat.le_refl _) (by omega) (by omega)
  · simp
theorem failRp_small (id e : Int) (he : e ≤ 1000) : RpSmall (failRp id e) := ⟨by simp [failRp], by simp [failRp], by simp [failRp], by simp [failRp], by simp only [failRp]; omega⟩
theorem ansRp_small (S : Src) (r : Rq) (h : SrcSmall S) : RpSmall (ansRp S r) := by
  have hf := fun (e : Int) (he : e ≤ 1000) => failRp_small r.id e he
  have hl : ∀ k, (S.leaves.take k).length ≤ 80 := fun k => by rw [List.length_take]; have := h.l1; omega
  unfold ansRp
  split
  · split
    · exact ⟨by have := h.h1; simp only; omega, by simp, by simp, by simp, by simp⟩
    · exact hf _ (by omega)
  split
  · split
    · exact ⟨by have := h.f1; simp only; omega, by simp, by simp, by simp, by simp⟩
    · exact hf _ (by omega)
  split
  · unfold entRp
    split
    · exact hf _ (by omega)
    split
    · exact hf _ (by omega)
    · refine ⟨by simp, ?_, fun t ht => ?_, ?_, by simp⟩
      · simp only [List.length_drop, List.length_take]; have := h.e1; omega
      · have := h.e2 t (List.mem_of_mem_take (List.mem_of_mem_drop ht)); omega
      · have := rprX_le (S.leaves.take r.size.toNat) (r.fr + r.count)
        have := hl r.size.toNat
        simp only; omega
  split
  · split
    · exact hf _ (by omega)
    · refine ⟨by simp, by simp, by simp, ?_, by simp⟩
      have := pathX_len (S.leaves.take r.size.toNat) r.fr (by have := hl r.size.toNat; omega)
      simp only; omega
  split
  · split
    · exact hf _ (by omega)
    · refine ⟨by simp, by simp, by simp, ?_, by simp⟩
      have := rprX_le (S.leaves.take r.size.toNat) r.fr
      have := hl r.size.toNat
      simp only; omega
  · exact hf _ (by omega)
/-- the bytes that bytes are answered with -/
def srvX (S : Src) (raw : List UInt8) : RpK := match getRq raw with
  | some r => ansRp S r
  | none => failRp 0 10
def srvI (raw : List UInt8) : Int := match getRq raw with
  | some r => r.id
  | none => 0
def srvB (S : Src) (raw : List UInt8) : List UInt8 := match putRp (srvX S raw) with
  | some t => t
  | none => (putRp (failRp (srvI raw) 2)).getD []
theorem srvX_small (S : Src) (raw : List UInt8) (h : SrcSmall S) : RpSmall (srvX S raw) := by
  unfold srvX
  split
  · exact ansRp_small S _ h
  · exact failRp_small _ _ (by omega)
end Go.Proofs.YtbpjlancjdbehaaDoor
/- serve: failed, proved, Size; the document's fails, Size -/
namespace Go.Proofs.YtbpjlancjdbehaaDoor
open Go.RowKit Go.Spec
abbrev nilS : Value := .slice none 0 0
theorem Tryd.sizeRpS : (Tryd.prog.info? 68).map (·.size) = some 6 := by kernel_rfl
theorem rpC_oneS (x : RpK) (vh ve vp : Value) (h1 : vh.oneCell' = true) (h2 : ve.oneCell' = true) (h3 : vp.oneCell' = true) : ∀ v ∈ (rpC x vh ve vp).toList, v.oneCell' = true := by
  intro v hv
  simp [rpC] at hv
  rcases hv with rfl | rfl | rfl | rfl | rfl | rfl
  · rfl
  · rfl
  · rfl
  · exact h1
  · exact h2
  · exact h3
theorem SlAt.oneS {w : World} {v : Value} {size : Nat} {css : List (List Value)} (h : SlAt w size v css) : v.oneCell' = true := by
  obtain ⟨a, cap, rfl, _⟩ := h.form
  rfl
set_option maxHeartbeats 1000000 in
theorem failed_any (id e : Int) (w : World) :
    Calls Tryd.prog 54 #[.int .i64 id, .int .i64 e] w fun en w' => en = .returned (.agg (rpC (failRp id e) nilS nilS nilS)) ∧ Below w.heap.size w w' := by
  have HB : Below w.heap.size w (w.alloc (.cells (rpC ⟨0, 0, 0, [], [], []⟩ nilS nilS nilS) 68)) := (Below.refl _ w).alloc (Nat.le_refl _) _
  have hZ : Blk (w.alloc (.cells (rpC ⟨0, 0, 0, [], [], []⟩ nilS nilS nilS) 68)) w.heap.size (rpC ⟨0, 0, 0, [], [], []⟩ nilS nilS nilS) 68 := Blk.new _ _ _
  go_enter Tryd.func54, Tryd.ntmps54
  go_wp2_with (first
    | ((with_reducible show wpList _ _ _ ({ dst := _, op := Op.build 68 _, type := _, pos := _, after := _, guard := _ } :: _) _ _); refine wpList_buildP rfl 68 [(0, .tmp 5), (1, .const (.int .i64 1)), (2, .tmp 6)] rfl (.agg (rpC (failRp id e) nilS nilS nilS)) (fun w => by kernel_rfl) ?_)
    | ((with_reducible show wpList _ _ _ ({ dst := _, op := Op.store _ _ _, type := _, pos := _, after := _, guard := _ } :: _) _ _); refine wpList_store_blk rfl 68 _ _ rfl w.heap.size rfl (rpC (failRp id e) nilS nilS nilS) rfl _ _ hZ rfl Tryd.sizeRpS (rpC_oneS _ _ _ _ rfl rfl rfl) ?_))
  refine bodyPost_ret (results_cell_row rfl _ _ w.heap.size 68 _ (0, 0) _ rfl (hZ.setRow) Tryd.underlying68 rfl Tryd.sizeRpS) rfl ⟨rfl, ?_⟩
  exact HB.setRow (by omega) _
set_option maxHeartbeats 1000000 in
theorem fails_any (id e : Int) (w : World) :
    Calls Tryd.prog 59 #[.int .i64 id, .int .i64 e] w fun en w' => en = .returned (.agg (rpC (failRp id e) nilS nilS nilS)) ∧ Below w.heap.size w w' := by
  have HB : Below w.heap.size w (w.alloc (.cells (rpC ⟨0, 0, 0, [], [], []⟩ nilS nilS nilS) 68)) := (Below.refl _ w).alloc (Nat.le_refl _) _
  have hZ : Blk (w.alloc (.cells (rpC ⟨0, 0, 0, [], [], []⟩ nilS nilS nilS) 68)) w.heap.size (rpC ⟨0, 0, 0, [], [], []⟩ nilS nilS nilS) 68 := Blk.new _ _ _
  go_enter Tryd.func59, Tryd.ntmps59
  go_wp2_with (first
    | ((with_reducible show wpList _ _ _ ({ dst := _, op := Op.build 68 _, type := _, pos := _, after := _, guard := _ } :: _) _ _); refine wpList_buildP rfl 68 [(0, .tmp 5), (1, .const (.int .i64 1)), (2, .tmp 6)] rfl (.agg (rpC (failRp id e) nilS nilS nilS)) (fun w => by kernel_rfl) ?_)
    | ((with_reducible show wpList _ _ _ ({ dst := _, op := Op.store _ _ _, type := _, pos := _, after := _, guard := _ } :: _) _ _); refine wpList_store_blk rfl 68 _ _ rfl w.heap.size rfl (rpC (failRp id e) nilS nilS nilS) rfl _ _ hZ rfl Tryd.sizeRpS (rpC_oneS _ _ _ _ rfl rfl rfl) ?_))
  refine bodyPost_ret (results_cell_row rfl _ _ w.heap.size 68 _ (0, 0) _ rfl (hZ.setRow) Tryd.underlying68 rfl Tryd.sizeRpS) rfl ⟨rfl, ?_⟩
  exact HB.setRow (by omega) _
set_option maxHeartbeats 1000000 in
theorem proved_ok (id kind : Int) (es ps : List (List UInt8)) (a1 a2 : Option Addr) (n1 n2 c1 c2 : Nat) (w : World) :
    Calls Tryd.prog 57 #[.int .i64 id, .int .i64 kind, .slice a1 n1 c1, .slice a2 n2 c2, .int .i64 0] w fun en w' => en = .returned (.agg (rpC ⟨id, kind, 0, [], es, ps⟩ nilS (.slice a1 n1 c1) (.slice a2 n2 c2))) ∧ Below w.heap.size w w' := by
  have HB : Below w.heap.size w (w.alloc (.cells (rpC ⟨0, 0, 0, [], [], []⟩ nilS nilS nilS) 68)) := (Below.refl _ w).alloc (Nat.le_refl _) _
  have hZ : Blk (w.alloc (.cells (rpC ⟨0, 0, 0, [], [], []⟩ nilS nilS nilS) 68)) w.heap.size (rpC ⟨0, 0, 0, [], [], []⟩ nilS nilS nilS) 68 := Blk.new _ _ _
  go_enter Tryd.func57, Tryd.ntmps57
  go_wp2_with (first
    | ((with_reducible show wpList _ _ _ ({ dst := _, op := Op.build 68 _, type := _, pos := _, after := _, guard := _ } :: _) _ _); refine wpList_buildP rfl 68 [(0, .tmp 16), (1, .tmp 17), (4, .tmp 18), (5, .tmp 19)] rfl (.agg (rpC ⟨id, kind, 0, [], es, ps⟩ nilS (.slice a1 n1 c1) (.slice a2 n2 c2))) (fun w => by kernel_rfl) ?_)
    | ((with_reducible show wpList _ _ _ ({ dst := _, op := Op.store _ _ _, type := _, pos := _, after := _, guard := _ } :: _) _ _); refine wpList_store_blk rfl 68 _ _ rfl w.heap.size rfl (rpC ⟨id, kind, 0, [], es, ps⟩ nilS (.slice a1 n1 c1) (.slice a2 n2 c2)) rfl _ _ hZ rfl Tryd.sizeRpS (rpC_oneS _ _ _ _ rfl rfl rfl) ?_))
  refine bodyPost_ret (results_cell_row rfl _ _ w.heap.size 68 _ (0, 0) _ rfl (hZ.setRow) Tryd.underlying68 rfl Tryd.sizeRpS) rfl ⟨rfl, ?_⟩
  exact HB.setRow (by omega) _
/-- what the head's size tells -/
theorem sizeS_one {S : Src} {d : Sg} (h : S.head = [d.k]) : sizeS S = if 0 ≤ d.z ∧ d.z ≤ S.entries.length ∧ d.z ≤ S.leaves.length then d.z else 0 := by
  unfold sizeS; rw [h]; rfl
theorem sizeS_none {S : Src} (h : S.head.length ≠ 1) : sizeS S = 0 := by
  unfold sizeS
  split
  · rename_i k hk; rw [hk] at h; exact absurd rfl h
  · rfl
set_option maxHeartbeats 2000000 in
theorem ssize_any (S : Src) (ve vl vh vf : Value) (hd fd : List Sg) (w : World) (h : SrcIn w S ve vl vh vf hd fd) (hs : SrcSmall S) :
    Calls Tryd.prog 30 #[.agg (srcC ve vl vh vf)] w fun e w' => e = .returned (.int .i64 (sizeS S)) ∧ Below w.heap.size w w' := by
  obtain ⟨ea, eac, rfl, _⟩ := h.entries.form
  obtain ⟨la, lac, rfl, _⟩ := h.leaves.formH
  obtain ⟨ha, hac, rfl, _⟩ := h.head.form
  have hlen : hd.length = S.head.length := by rw [← h.hk, List.length_map]
  have he1 := hs.e1; have hl1 := hs.l1
  by_cases h1 : hd.length = 1
  · obtain ⟨d, rfl⟩ : ∃ d, hd = [d] := by
      match hd, h1 with
      | [d], _ => exact ⟨d, rfl⟩
    have hS := sizeS_one (S := S) (d := d) (by rw [← h.hk]; rfl)
    have HS := hid hS
    have HX := hid h
    generalize sizeS S = N at *
    clear hS h hs h1 hlen
    go_enter Tryd.func30, Tryd.ntmps30
    go_upto_region 1 with fail
    refine wp_world (fun W => Blk W w.heap.size (srcC (.slice ea S.entries.length eac) (.slice la S.leaves.length lac) (.slice ha [d].length hac) vf) 59 ∧ Below w.heap.size w W) ⟨Blk.new _ _ _, (Below.refl _ w).alloc (Nat.le_refl _) _⟩ ?_
    rintro w0 ⟨hB0, hb0⟩
    have a0 : w0.cell? ⟨w.heap.size, 0, none⟩ = some (.slice ea S.entries.length eac) := Blk.cell hB0 0
    have a1 : w0.cell? ⟨w.heap.size, 1, none⟩ = some (.slice la S.leaves.length lac) := Blk.cell hB0 1
    have a2 : w0.cell? ⟨w.heap.size, 2, none⟩ = some (.slice ha [d].length hac) := Blk.cell hB0 2
    obtain ⟨b, o, rfl, hbl, hcell⟩ := (HX.out.below hb0).head.get (i := 0) (by simp)
    have cz : w0.cell? ⟨b, o, none⟩ = some (.int .i64 d.z) := by
      have := hcell 0 (.int .i64 d.z) rfl
      simpa [Addr.add_lit] using this
    have hl : [d].length = 1 := rfl
    rw [hl] at a2
    have Hb0 := hid hb0
    clear hcell hB0 hb0 hbl
    generalize d.z = z at *
    by_cases c1 : z < 0
    · have d1 : decide (z < 0) = true := by simpa using c1
      have HN := hid (show N = 0 by rw [HS.out, if_neg (by omega)])
      clear c1
      go_wp2
      go_ret
      exact ⟨by rw [HN.out]; rfl, Hb0.out⟩
    · have d1 : decide (z < 0) = false := by simpa using c1
      by_cases c2 : (S.entries.length : Int) < z
      · have d2 : decide ((S.entries.length : Int) < z) = true := by simpa using c2
        have HN := hid (show N = 0 by rw [HS.out, if_neg (by omega)])
        clear c1 c2
        go_wp2
        go_ret
        exact ⟨by rw [HN.out]; rfl, Hb0.out⟩
      · have d2 : decide ((S.entries.length : Int) < z) = false := by simpa using c2
        by_cases c3 : (S.leaves.length : Int) < z
        · have d3 : decide ((S.leaves.length : Int) < z) = true := by simpa using c3
          have HN := hid (show N = 0 by rw [HS.out, if_neg (by omega)])
          clear c1 c2 c3
          go_wp2
          go_ret
          exact ⟨by rw [HN.out]; rfl, Hb0.out⟩
        · have d3 : decide ((S.leaves.length : Int) < z) = false := by simpa using c3
          have HN := hid (show N = z by rw [HS.out, if_pos (by omega)])
          clear c1 c2 c3
          go_wp2
          go_ret
          exact ⟨by rw [HN.out]; rfl, Hb0.out⟩
  · have hS := sizeS_none (S := S) (by omega)
    rw [hS]
    have d1 : ((hd.length : Int) != 1) = true := by simp; omega
    have hhd : hd.length ≤ 3 := by rw [hlen]; exact hs.h1
    clear hS h hs h1 hlen
    go_enter Tryd.func30, Tryd.ntmps30
    go_upto_region 1 with fail
    refine wp_world (fun W => Blk W w.heap.size (srcC (.slice ea S.entries.length eac) (.slice la S.leaves.length lac) (.slice ha hd.length hac) vf) 59 ∧ Below w.heap.size w W) ⟨Blk.new _ _ _, (Below.refl _ w).alloc (Nat.le_refl _) _⟩ ?_
    rintro w0 ⟨hB0, hb0⟩
    have a2 : w0.cell? ⟨w.heap.size, 2, none⟩ = some (.slice ha hd.length hac) := Blk.cell hB0 2
    clear hB0
    go_wp2
    go_ret
    exact ⟨rfl, hb0⟩
end Go.Proofs.YtbpjlancjdbehaaDoor
/- speculumref21.Size -/
namespace Go.Proofs.YtbpjlancjdbehaaDoor
open Go.RowKit Go.Spec
set_option maxHeartbeats 2000000 in
theorem rsize_any (S : Src) (ve vl vh vf : Value) (hd fd : List Sg) (w : World) (h : SrcIn w S ve vl vh vf hd fd) (hs : SrcSmall S) :
    Calls Tryd.prog 31 #[.agg (srcC ve vl vh vf)] w fun e w' => e = .returned (.int .i64 (sizeS S)) ∧ Below w.heap.size w w' := by
  obtain ⟨ea, eac, rfl, _⟩ := h.entries.form
  obtain ⟨la, lac, rfl, _⟩ := h.leaves.formH
  obtain ⟨ha, hac, rfl, _⟩ := h.head.form
  have hlen : hd.length = S.head.length := by rw [← h.hk, List.length_map]
  have he1 := hs.e1; have hl1 := hs.l1
  by_cases h1 : hd.length = 1
  · obtain ⟨d, rfl⟩ : ∃ d, hd = [d] := by
      match hd, h1 with
      | [d], _ => exact ⟨d, rfl⟩
    have hS := sizeS_one (S := S) (d := d) (by rw [← h.hk]; rfl)
    have HS := hid hS
    have HX := hid h
    generalize sizeS S = N at *
    clear hS h hs h1 hlen
    go_enter Tryd.func31, Tryd.ntmps31
    go_upto_region 1 with fail
    refine wp_world (fun W => Blk W w.heap.size (srcC (.slice ea S.entries.length eac) (.slice la S.leaves.length lac) (.slice ha [d].length hac) vf) 63 ∧ Below w.heap.size w W) ⟨Blk.new _ _ _, (Below.refl _ w).alloc (Nat.le_refl _) _⟩ ?_
    rintro w0 ⟨hB0, hb0⟩
    obtain ⟨b, o, rfl, hbl, hcell⟩ := (HX.out.below hb0).head.get (i := 0) (by simp)
    have cz : w0.cell? ⟨b, o, none⟩ = some (.int .i64 d.z) := by
      have := hcell 0 (.int .i64 d.z) rfl
      simpa [Addr.add_lit] using this
    have hl : [d].length = 1 := rfl
    rw [hl] at hB0
    have Hb0 := hid hb0
    have HB0 := hid hB0
    have HZ := hid (fun q : Later w0 => show (lat q).cell? ⟨b, o, none⟩ = some (.int .i64 d.z) from by rw [lat_cell q _ _ hbl]; exact cz)
    clear hcell hB0 hb0
    generalize d.z = z at *
    have fin : ∀ (N0 : Int), N = N0 → N0 = N := fun _ h => h.symm
    by_cases c1 : z < 0
    · have d1 : decide (0 ≤ z) = false := by simpa using c1
      have HN := hid (show N = 0 by rw [HS.out, if_neg (by omega)])
      clear c1 fin
      refine wp_region_later (by kernel_rfl) (by kernel_rfl) ?_
      repeat (first
        | go_big_quiet_skip
        | (refine wpQuiet_load_one rfl 57 _ rfl ⟨w.heap.size, 2, none⟩ rfl (.slice (some ⟨b, o, none⟩) 1 hac) _ (by rintro _ ⟨q, rfl⟩; exact (Blk.cell (HB0.out.later (lat_below q)) 2)) Tryd.underlying57 rfl ?_; simp only [Act.put, List.setIfInBounds_toArray, List.set_cons_succ, List.set_cons_zero])
        | (refine wpQuiet_load_one rfl 3 _ rfl ⟨b, o, none⟩ rfl (.int .i64 z) _ (by rintro _ ⟨q, rfl⟩; exact HZ.out q) Tryd.underlying3 rfl ?_; simp only [Act.put, List.setIfInBounds_toArray, List.set_cons_succ, List.set_cons_zero])
        | go_big_quiet_step (fail))
      refine wpQuiet_nil ?_
      rintro _ ⟨q3, rfl⟩
      have hb3 := lat_below q3
      generalize lat q3 = w3 at *
      go_wp2
      go_ret
      exact ⟨by rw [HN.out]; rfl, bth Hb0.out hb3⟩
    · have d1 : decide (0 ≤ z) = true := by simp; omega
      by_cases c2 : z ≤ S.entries.length ∧ z ≤ S.leaves.length
      · have HN := hid (show N = z by rw [HS.out, if_pos (by omega)])
        have d3 : decide (z ≤ min (S.entries.length : Int) (S.leaves.length : Int)) = true := by simp; omega
        have cz2 := hid (fun w' (hb : Below w0.heap.size w0 w') => (hb.cell (p := ⟨b, o, none⟩) hbl).trans cz)
        clear c1 c2 fin cz
        refine wp_region_later (by kernel_rfl) (by kernel_rfl) ?_
        repeat (first
          | go_big_quiet_skip
          | (refine wpQuiet_load_one rfl 57 _ rfl ⟨w.heap.size, 2, none⟩ rfl (.slice (some ⟨b, o, none⟩) 1 hac) _ (by rintro _ ⟨q, rfl⟩; exact (Blk.cell (HB0.out.later (lat_below q)) 2)) Tryd.underlying57 rfl ?_; simp only [Act.put, List.setIfInBounds_toArray, List.set_cons_succ, List.set_cons_zero])
          | (refine wpQuiet_load_one rfl 56 _ rfl ⟨w.heap.size, 0, none⟩ rfl (.slice ea S.entries.length eac) _ (by rintro _ ⟨q, rfl⟩; exact (Blk.cell (HB0.out.later (lat_below q)) 0)) Tryd.underlying56 rfl ?_; simp only [Act.put, List.setIfInBounds_toArray, List.set_cons_succ, List.set_cons_zero])
          | (refine wpQuiet_load_one rfl 22 _ rfl ⟨w.heap.size, 1, none⟩ rfl (.slice la S.leaves.length lac) _ (by rintro _ ⟨q, rfl⟩; exact (Blk.cell (HB0.out.later (lat_below q)) 1)) Tryd.underlying22 rfl ?_; simp only [Act.put, List.setIfInBounds_toArray, List.set_cons_succ, List.set_cons_zero])
          | (refine wpQuiet_load_one rfl 3 _ rfl ⟨b, o, none⟩ rfl (.int .i64 z) _ (by rintro _ ⟨q, rfl⟩; exact HZ.out q) Tryd.underlying3 rfl ?_; simp only [Act.put, List.setIfInBounds_toArray, List.set_cons_succ, List.set_cons_zero])
          | go_big_quiet_step (fail))
        refine wpQuiet_nil ?_
        rintro _ ⟨q3, rfl⟩
        have hb3 := lat_below q3
        generalize lat q3 = w3 at *
        have a2 : w3.cell? ⟨w.heap.size, 2, none⟩ = some (.slice (some ⟨b, o, none⟩) 1 hac) := Blk.cell (HB0.out.later hb3) 2
        have cz := cz2.out w3 hb3
        go_wp2
        go_ret
        exact ⟨by rw [HN.out]; rfl, bth Hb0.out hb3⟩
      · have HN := hid (show N = 0 by rw [HS.out, if_neg (by omega)])
        have d3 : decide (z ≤ min (S.entries.length : Int) (S.leaves.length : Int)) = false := by simp; omega
        clear c1 c2 fin cz
        refine wp_region_later (by kernel_rfl) (by kernel_rfl) ?_
        repeat (first
          | go_big_quiet_skip
          | (refine wpQuiet_load_one rfl 57 _ rfl ⟨w.heap.size, 2, none⟩ rfl (.slice (some ⟨b, o, none⟩) 1 hac) _ (by rintro _ ⟨q, rfl⟩; exact (Blk.cell (HB0.out.later (lat_below q)) 2)) Tryd.underlying57 rfl ?_; simp only [Act.put, List.setIfInBounds_toArray, List.set_cons_succ, List.set_cons_zero])
          | (refine wpQuiet_load_one rfl 56 _ rfl ⟨w.heap.size, 0, none⟩ rfl (.slice ea S.entries.length eac) _ (by rintro _ ⟨q, rfl⟩; exact (Blk.cell (HB0.out.later (lat_below q)) 0)) Tryd.underlying56 rfl ?_; simp only [Act.put, List.setIfInBounds_toArray, List.set_cons_succ, List.set_cons_zero])
          | (refine wpQuiet_load_one rfl 22 _ rfl ⟨w.heap.size, 1, none⟩ rfl (.slice la S.leaves.length lac) _ (by rintro _ ⟨q, rfl⟩; exact (Blk.cell (HB0.out.later (lat_below q)) 1)) Tryd.underlying22 rfl ?_; simp only [Act.put, List.setIfInBounds_toArray, List.set_cons_succ, List.set_cons_zero])
          | (refine wpQuiet_load_one rfl 3 _ rfl ⟨b, o, none⟩ rfl (.int .i64 z) _ (by rintro _ ⟨q, rfl⟩; exact HZ.out q) Tryd.underlying3 rfl ?_; simp only [Act.put, List.setIfInBounds_toArray, List.set_cons_succ, List.set_cons_zero])
          | go_big_quiet_step (fail))
        refine wpQuiet_nil ?_
        rintro _ ⟨q3, rfl⟩
        have hb3 := lat_below q3
        generalize lat q3 = w3 at *
        go_wp2
        go_ret
        exact ⟨by rw [HN.out]; rfl, bth Hb0.out hb3⟩
  · have hS := sizeS_none (S := S) (by omega)
    rw [hS]
    have d1 : ((hd.length : Int) == 1) = false := by simp; omega
    have hhd : hd.length ≤ 3 := by rw [hlen]; exact hs.h1
    clear hS h hs h1 hlen
    go_enter Tryd.func31, Tryd.ntmps31
    go_upto_region 1 with fail
    refine wp_world (fun W => Blk W w.heap.size (srcC (.slice ea S.entries.length eac) (.slice la S.leaves.length lac) (.slice ha hd.length hac) vf) 63 ∧ Below w.heap.size w W) ⟨Blk.new _ _ _, (Below.refl _ w).alloc (Nat.le_refl _) _⟩ ?_
    rintro w0 ⟨hB0, hb0⟩
    have HB0 := hid hB0
    clear hB0
    refine wp_region_later (by kernel_rfl) (by kernel_rfl) ?_
    repeat (first
      | go_big_quiet_skip
      | (refine wpQuiet_load_one rfl 57 _ rfl ⟨w.heap.size, 2, none⟩ rfl (.slice ha hd.length hac) _ (by rintro _ ⟨q, rfl⟩; exact (Blk.cell (HB0.out.later (lat_below q)) 2)) Tryd.underlying57 rfl ?_; simp only [Act.put, List.setIfInBounds_toArray, List.set_cons_succ, List.set_cons_zero])
      | go_big_quiet_step (fail))
    refine wpQuiet_nil ?_
    rintro _ ⟨q3, rfl⟩
    have hb3 := lat_below q3
    generalize lat q3 = w3 at *
    go_wp2
    go_ret
    exact ⟨rfl, bth hb0 hb3⟩
end Go.Proofs.YtbpjlancjdbehaaDoor
