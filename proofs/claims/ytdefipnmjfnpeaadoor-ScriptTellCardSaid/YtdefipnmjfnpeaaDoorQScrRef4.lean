/- the document's script: Put, Same -/
import Derived.Test.YtdefipnmjfnpeaaDoorQScrRef3

set_option maxRecDepth 100000
namespace Go.Proofs.YtdefipnmjfnpeaaDoor
open Go.RowKit Go.Spec
set_option maxHeartbeats 4000000 in
theorem rsame_any (x y : Stp) (w : World) (hx : I64 x ∧ x.text.length ≤ 100000000) (hy : I64 y ∧ y.text.length ≤ 100000000) :
    Calls Tryd.prog 9 #[x.v, y.v] w fun e w' => e = .returned (.bool (!(lineL x == []) && lineL x == lineL y)) ∧ Below w.heap.size w w' := by
  have C1 := hid (fun w0 => rline_any x w0 hx.1 hx.2)
  have C2 := hid (fun w0 => rline_any y w0 hy.1 hy.2)
  have Hsx := hid (show (Tryd.prog.info? 27).map (·.size) = some x.cs.size from Tryd.sizeStepR)
  have Hsy := hid (show (Tryd.prog.info? 27).map (·.size) = some y.cs.size from Tryd.sizeStepR)
  clear hx hy
  unfold Stp.v at *
  obtain ⟨LX, hLX⟩ : ∃ L, lineL x = L := ⟨_, rfl⟩
  obtain ⟨LY, hLY⟩ : ∃ L, lineL y = L := ⟨_, rfl⟩
  rw [hLX] at C1
  rw [hLY] at C2
  have HE := hid (And.intro hLX hLY)
  clear hLX hLY
  generalize x.cs = cx at *
  generalize y.cs = cy at *
  go_enter Tryd.func9, Tryd.ntmps9
  go_upto_region 1 with fail
  refine wp_world (fun W => Blk W w.heap.size cx 27 ∧ Blk W (w.heap.size + 1) cy 27 ∧ Below w.heap.size w W) ⟨(Blk.new _ _ _).alloc _, Blk.new' _ _ _ (by simp), ((Below.refl _ w).alloc (Nat.le_refl _) _).alloc (by simp) _⟩ ?_
  rintro y0 ⟨hX, hY, hb0⟩
  have HX := hid hX; have HY := hid hY; have HB := hid hb0; clear hX hY hb0
  have D1 := hid (fun q : Later y0 => C1.out (lat q))
  have D2 := hid (fun q : Later y0 => C2.out (lat q))
  clear C1 C2
  by_cases h0 : LX = []
  · subst h0
    refine wp_region_later (by kernel_rfl) (by kernel_rfl) ?_
    repeat (first
      | go_big_quiet_skip
      | (refine wpQuiet_load_aggG rfl 27 _ rfl ⟨w.heap.size, 0, none⟩ rfl cx _ (by rintro _ ⟨q, rfl⟩; exact (HX.out.later (lat_below q)).cells) Tryd.underlying27 rfl Hsx.out ?_; simp only [Act.put, List.setIfInBounds_toArray, List.set_cons_succ, List.set_cons_zero])
      | (refine wpQuiet_load_aggG rfl 27 _ rfl ⟨w.heap.size + 1, 0, none⟩ rfl cy _ (by rintro _ ⟨q, rfl⟩; exact (HY.out.later (lat_below q)).cells) Tryd.underlying27 rfl Hsy.out ?_; simp only [Act.put, List.setIfInBounds_toArray, List.set_cons_succ, List.set_cons_zero])
      | go_big_quiet_step ((first | (go_at_call 15; with_reducible exact calls_later (D1.out _)) | (go_at_call 15; with_reducible exact calls_later (D2.out _)))))
    refine wpQuiet_nil ?_
    rintro _ ⟨q6, rfl⟩
    have hb6 := lat_below q6
    generalize lat q6 = w6 at *
    go_wp2
    go_ret
    exact ⟨by rw [HE.out.1]; rfl, bth HB.out hb6⟩
  · have hne : (LX == []) = false := by simpa using h0
    refine wp_region_later (by kernel_rfl) (by kernel_rfl) ?_
    repeat (first
      | go_big_quiet_skip
      | (refine wpQuiet_load_aggG rfl 27 _ rfl ⟨w.heap.size, 0, none⟩ rfl cx _ (by rintro _ ⟨q, rfl⟩; exact (HX.out.later (lat_below q)).cells) Tryd.underlying27 rfl Hsx.out ?_; simp only [Act.put, List.setIfInBounds_toArray, List.set_cons_succ, List.set_cons_zero])
      | (refine wpQuiet_load_aggG rfl 27 _ rfl ⟨w.heap.size + 1, 0, none⟩ rfl cy _ (by rintro _ ⟨q, rfl⟩; exact (HY.out.later (lat_below q)).cells) Tryd.underlying27 rfl Hsy.out ?_; simp only [Act.put, List.setIfInBounds_toArray, List.set_cons_succ, List.set_cons_zero])
      | go_big_quiet_step ((first | (go_at_call 15; with_reducible exact calls_later (D1.out _)) | (go_at_call 15; with_reducible exact calls_later (D2.out _)))))
    refine wpQuiet_nil ?_
    rintro _ ⟨q6, rfl⟩
    have hb6 := lat_below q6
    generalize lat q6 = w6 at *
    go_wp2
    go_ret
    refine ⟨?_, bth HB.out hb6⟩
    rw [HE.out.1, HE.out.2, hne]; rfl
set_option maxHeartbeats 4000000 in
theorem rput_any (v : Value) (xs : List Stp) (w : World) (hS : StpsAt w v xs) (hn : xs.length ≤ 1000000000) (hx : ∀ x ∈ xs, I64 x ∧ x.text.length ≤ 100000000) (hl : (flatL xs).length ≤ 100000000000) :
    Calls Tryd.prog 13 #[v] w fun e w' => e = .returned (sv (flatL xs)) ∧ Below w.heap.size w w' := by
  have HS := hid hS; have HX := hid hx; have HL := hid hl; clear hS hx hl
  obtain ⟨ea, ec, rfl, _⟩ : ∃ a c, v = .slice a xs.length c ∧ xs.length ≤ c := by
    obtain ⟨a, c, h1, h2, _⟩ := HS.out
    exact ⟨a, c, by simpa using h1, by simpa using h2⟩
  go_enter Tryd.func13, Tryd.ntmps13
  go_upto_region 3 with fail
  go_loopw [3, 4] (fun s i wr => ∃ k : Nat, k ≤ xs.length ∧ i = .int .i64 (k : Int) ∧ s = sv (flatL (xs.take k)) ∧ Below w.heap.size w wr) (fun _ i _ => xs.length - (intOf i).toNat)
  case atStart => exact ⟨0, by omega, rfl, rfl, Below.refl _ _⟩
  case round =>
    obtain ⟨k, hk, rfl, rfl, hb⟩ := hrel
    have HB := hid hb; clear hb
    by_cases hlt : k < xs.length
    · have hkI : (k : Int) < (xs.length : Int) := by omega
      obtain ⟨x, hx⟩ : ∃ x, xs[k]? = some x := ⟨xs[k], List.getElem?_eq_getElem hlt⟩
      obtain ⟨b, o, rfl, hbl, _, hcell⟩ := (SlAt.below HS.out HB.out (Nat.le_refl _)).at (i := k) (cs := x.cs.toList) (by rw [List.getElem?_map, hx]; rfl)
      obtain ⟨hxi, hxt⟩ := HX.out x (List.mem_of_getElem? hx)
      have Htk := hid (show flatL (xs.take (k + 1)) = flatL (xs.take k) ++ lineL x by rw [List.take_add_one, hx, flatL_append]; simp [flatL])
      have hle : (flatL (xs.take k)).length + (lineL x).length ≤ 100000000000 := by
        have h1 := HL.out
        have h2 : flatL xs = flatL (xs.take k) ++ (lineL x ++ flatL (xs.drop (k + 1))) := by
          rw [← List.append_assoc, ← Htk.out, ← flatL_append, List.take_append_drop]
        rw [h2, List.length_append, List.length_append] at h1
        omega
      have HC := hid hcell
      have C1 := hid (rline_any x wr hxi hxt)
      have Hs := hid (show (Tryd.prog.info? 27).map (·.size) = some x.cs.size from Tryd.sizeStepR)
      clear hcell hxi hxt hx hbl
      unfold Stp.v at C1
      generalize lineL x = LX at *
      generalize x.cs = cs at *
      generalize flatL (xs.take k) = F at *
      have f1 : ¬ 9223372036854775807 < F.length + LX.length := by omega
      clear hle
      go_wp2_with (first
        | ((with_reducible show wpList _ _ _ ({ dst := _, op := Op.load 27 _, type := _, pos := _, after := _, guard := _ } :: _) _ _); refine wpList_load_cs rfl 27 _ rfl ⟨b, o + k * 5, none⟩ rfl cs _ HC.out Tryd.underlying27 rfl Hs.out ?_)
        | (go_at_call 15; refine C1.out.mono ?_; rintro e w5 ⟨rfl, hb5⟩))
      go_roundw
      case rel => exact ⟨k + 1, by omega, by go_num, by rw [Htk.out], bth HB.out hb5⟩
      case measure => simp [intOf]; omega
    · obtain rfl : k = xs.length := by omega
      have Htk := hid (show flatL (xs.take xs.length) = flatL xs by rw [List.take_length])
      clear hlt
      go_wp2_with fail
      go_ret
      exact ⟨by rw [← Htk.out]; rfl, HB.out⟩
end Go.Proofs.YtdefipnmjfnpeaaDoor
