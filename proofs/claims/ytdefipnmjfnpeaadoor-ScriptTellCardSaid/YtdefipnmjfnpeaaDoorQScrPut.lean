/- script.Put, script.Same -/
import Derived.Test.YtdefipnmjfnpeaaDoorQAnyOp
import Derived.Test.YtdefipnmjfnpeaaDoorQBuilder
import Derived.Test.YtdefipnmjfnpeaaDoorQScrLine
import Derived.Test.YtdefipnmjfnpeaaDoorQSlices

set_option maxRecDepth 100000
namespace Go.Proofs.YtdefipnmjfnpeaaDoor
open Go.RowKit Go.Spec
def StpsAt (w : World) (v : Value) (xs : List Stp) : Prop := SlAt w 5 v (xs.map fun x => x.cs.toList)
theorem string_any (g : Nat) (r : Option Nat) (l : List UInt8) (w : World) (h : Bld g r l w) :
    Calls Tryd.prog 20 #[.pointer (some ⟨g, 0, none⟩)] w fun e w' => e = .returned (sv l) ∧ Below g w w' := by
  by_cases h0 : l = []
  · subst h0
    have hlt := h.lt
    have hI : Lib.IsBuilder 52 5 g g [] w := by
      obtain ⟨p, v, hb, hp, hown, _⟩ := h
      have key : ∀ q, p = q → Lib.BuilderAt 52 5 g g q [] w := fun q hq => ⟨Nat.le_refl _, v, by rw [← hq]; exact hb, by simpa using hown.rebase (Nat.le_succ g), fun e => by have := (hown.lt g e).1; omega⟩
      rcases hp with rfl | rfl
      · exact .inl (key _ rfl)
      · exact .inr (key _ rfl)
    exact (Tryd.Builder_String_empty g g w hI (Nat.le_of_lt hlt))
  · refine (bstring_any g r l w h h0).mono ?_
    rintro e w' ⟨rfl, hf⟩
    exact ⟨rfl, hf.below (Nat.le_of_lt h.lt) (fun k hk => by have := h.row k hk; omega)⟩
set_option maxHeartbeats 4000000 in
theorem put_any (v : Value) (xs : List Stp) (w : World) (hS : StpsAt w v xs) (hn : xs.length ≤ 1000000000) (hx : ∀ x ∈ xs, I64 x ∧ x.text.length ≤ 100000000) (hl : (flatL xs).length ≤ 100000000000) (hG : ScrG w) :
    Calls Tryd.prog 12 #[v] w fun e w' => e = .returned (sv (flatL xs)) ∧ Below w.heap.size w w' := by
  have HS := hid hS; have HX := hid hx; have HG := hid hG; have HL := hid hl; clear hS hx hG hl
  obtain ⟨ea, ec, rfl, _⟩ : ∃ a c, v = .slice a xs.length c ∧ xs.length ≤ c := by
    obtain ⟨a, c, h1, h2, _⟩ := HS.out
    exact ⟨a, c, by simpa using h1, by simpa using h2⟩
  go_enter Tryd.func12, Tryd.ntmps12
  go_upto_region 2 with fail
  refine wp_world (fun W => Bld w.heap.size none [] W ∧ Below w.heap.size w W) ⟨IsB.fresh _ _ w, (Below.refl _ w).alloc (Nat.le_refl _) _⟩ ?_
  rintro y0 ⟨hB, hb0⟩
  go_upto_region 3 with fail
  go_loopw [8] (fun i wr => ∃ (k : Nat) (r : Option Nat), k ≤ xs.length ∧ i = .int .i64 (k : Int) ∧ Bld w.heap.size r (flatL (xs.take k)) wr ∧ Below w.heap.size w wr) (fun i _ => xs.length - (intOf i).toNat)
  case atStart => exact ⟨0, none, by omega, rfl, hB, hb0⟩
  case round =>
    obtain ⟨k, r, hk, rfl, hBk, hb⟩ := hrel
    have HBk := hid hBk; have HB := hid hb; clear hBk hb hB hb0
    by_cases hlt : k < xs.length
    · have hkI : (k : Int) < (xs.length : Int) := by omega
      obtain ⟨x, hx⟩ : ∃ x, xs[k]? = some x := ⟨xs[k], List.getElem?_eq_getElem hlt⟩
      obtain ⟨b, o, rfl, hbl, _, hcell⟩ := (SlAt.below HS.out HB.out (Nat.le_refl _)).at (i := k) (cs := x.cs.toList) (by rw [List.getElem?_map, hx]; rfl)
      obtain ⟨hxi, hxt⟩ := HX.out x (List.mem_of_getElem? hx)
      have Htk := hid (show flatL (xs.take (k + 1)) = flatL (xs.take k) ++ lineL x by rw [List.take_add_one, hx, flatL_append]; simp [flatL])
      have Hle := hid (show (flatL (xs.take k)).length + (lineL x).length ≤ 100000000000 from by
        have h1 := HL.out
        have h2 : flatL xs = flatL (xs.take k) ++ (lineL x ++ flatL (xs.drop (k + 1))) := by
          rw [← List.append_assoc, ← Htk.out, ← flatL_append, List.take_append_drop]
        rw [h2, List.length_append, List.length_append] at h1
        omega)
      have HC := hid hcell
      have C1 := hid (fun w0 h0 => line_any x w0 hxi hxt h0)
      have Hs := hid (show (Tryd.prog.info? 28).map (·.size) = some x.cs.size from Tryd.sizeStep)
      have Ho := hid (show ∀ v ∈ x.cs.toList, v.oneCell' = true from by intro v hv; simp [Stp.cs] at hv; rcases hv with rfl | rfl | rfl | rfl | rfl <;> rfl)
      have Hz := hid (show x.cs.size = 5 from rfl)
      clear hcell hxi hxt hx hbl
      unfold Stp.v at C1
      generalize lineL x = LX at *
      generalize x.cs = cs at *
      generalize flatL (xs.take k) = F at *
      go_wp2_with (first
        | ((with_reducible show wpList _ _ _ ({ dst := _, op := Op.load 28 _, type := _, pos := _, after := _, guard := _ } :: _) _ _); refine wpList_load_cs rfl 28 _ rfl ⟨b, o + k * 5, none⟩ rfl cs _ HC.out Tryd.underlying28 rfl Hs.out ?_)
        | ((with_reducible show wpList _ _ _ ({ dst := _, op := Op.store _ _ _, type := _, pos := _, after := _, guard := _ } :: _) _ _); refine wpList_store_newA rfl 28 _ _ rfl rfl cs rfl _ 28 (by rw [Hz.out]; rfl) Hs.out Ho.out ?_)
        | ((with_reducible show wpList _ _ _ ({ dst := _, op := Op.load 28 _, type := _, pos := _, after := _, guard := _ } :: _) _ _); refine wpList_load_newA rfl 28 _ rfl rfl cs 28 _ Tryd.underlying28 rfl Hs.out ?_)
        | (go_at_call 14; refine (C1.out _ (HG.out.later (HB.out.alloc HB.out.size _))).mono ?_; rintro e w5 ⟨rfl, hb5⟩; have HB5 := hid (bth (HB.out.alloc HB.out.size (.cells cs 28)) hb5); have HK5 := hid ((HBk.out.below ((Below.refl _ wr).alloc (Nat.le_refl _) (.cells cs 28))).below hb5))
        | (go_at_call 19; refine (ws_any _ _ _ LX _ HK5.out (by have := Hle.out; omega)).mono ?_; rintro e w7 ⟨rfl, hw7⟩))
      go_roundw
      case rel =>
        obtain ⟨r2, hr2, _⟩ := hw7.ex
        refine ⟨k + 1, r2, by omega, by go_num, by rw [Htk.out]; exact hr2, ?_⟩
        exact HB5.out.trans (hw7.below HK5.out)
      case measure => simp [intOf]; omega
    · obtain rfl : k = xs.length := by omega
      rw [List.take_length] at HBk
      have C1 := hid (string_any _ _ _ _ HBk.out)
      obtain ⟨F, hF⟩ : ∃ F, flatL xs = F := ⟨_, rfl⟩
      rw [hF] at C1
      have HF := hid hF; clear hF hlt
      go_wp2_with (go_at_call 20; refine C1.out.mono ?_; rintro e w7 ⟨rfl, hb7⟩)
      go_ret
      exact ⟨by rw [HF.out]; rfl, HB.out.trans hb7⟩
set_option maxHeartbeats 4000000 in
theorem same_any (x y : Stp) (w : World) (hx : I64 x ∧ x.text.length ≤ 100000000) (hy : I64 y ∧ y.text.length ≤ 100000000) (hG : ScrG w) :
    Calls Tryd.prog 8 #[x.v, y.v] w fun e w' => e = .returned (.bool (!(lineL x == []) && lineL x == lineL y)) ∧ Below w.heap.size w w' := by
  have HG := hid hG; clear hG
  have C1 := hid (fun w0 h0 => line_any x w0 hx.1 hx.2 h0)
  have C2 := hid (fun w0 h0 => line_any y w0 hy.1 hy.2 h0)
  have Hsx := hid (show (Tryd.prog.info? 28).map (·.size) = some x.cs.size from Tryd.sizeStep)
  have Hsy := hid (show (Tryd.prog.info? 28).map (·.size) = some y.cs.size from Tryd.sizeStep)
  clear hx hy
  unfold Stp.v at *
  obtain ⟨LX, hLX⟩ : ∃ L, lineL x = L := ⟨_, rfl⟩
  obtain ⟨LY, hLY⟩ : ∃ L, lineL y = L := ⟨_, rfl⟩
  rw [hLX] at C1
  rw [hLY] at C2
  have HE := hid (And.intro hLX hLY)
  clear hLX hLY
  generalize x.cs = cx at *
  generalize y.cs = cy at *
  go_enter Tryd.func8, Tryd.ntmps8
  go_upto_region 1 with fail
  refine wp_world (fun W => Blk W w.heap.size cx 28 ∧ Blk W (w.heap.size + 1) cy 28 ∧ Below w.heap.size w W) ⟨(Blk.new _ _ _).alloc _, Blk.new' _ _ _ (by simp), ((Below.refl _ w).alloc (Nat.le_refl _) _).alloc (by simp) _⟩ ?_
  rintro y0 ⟨hX, hY, hb0⟩
  have HX := hid hX; have HY := hid hY; have HB := hid hb0; clear hX hY hb0
  have D1 := hid (fun q : Later y0 => C1.out (lat q) (HG.out.later (bth HB.out (lat_below q))))
  have D2 := hid (fun q : Later y0 => C2.out (lat q) (HG.out.later (bth HB.out (lat_below q))))
  clear C1 C2
  by_cases h0 : LX = []
  · subst h0
    refine wp_region_later (by kernel_rfl) (by kernel_rfl) ?_
    repeat (first
      | go_big_quiet_skip
      | (refine wpQuiet_load_aggG rfl 28 _ rfl ⟨w.heap.size, 0, none⟩ rfl cx _ (by rintro _ ⟨q, rfl⟩; exact (HX.out.later (lat_below q)).cells) Tryd.underlying28 rfl Hsx.out ?_; simp only [Act.put, List.setIfInBounds_toArray, List.set_cons_succ, List.set_cons_zero])
      | (refine wpQuiet_load_aggG rfl 28 _ rfl ⟨w.heap.size + 1, 0, none⟩ rfl cy _ (by rintro _ ⟨q, rfl⟩; exact (HY.out.later (lat_below q)).cells) Tryd.underlying28 rfl Hsy.out ?_; simp only [Act.put, List.setIfInBounds_toArray, List.set_cons_succ, List.set_cons_zero])
      | go_big_quiet_step ((first | (go_at_call 14; with_reducible exact calls_later (D1.out _)) | (go_at_call 14; with_reducible exact calls_later (D2.out _)))))
    refine wpQuiet_nil ?_
    rintro _ ⟨q6, rfl⟩
    have hb6 := lat_below q6
    generalize lat q6 = w6 at *
    go_wp2
    go_ret
    exact ⟨by rw [HE.out.1]; rfl, bth HB.out hb6⟩
  · have hne : (LX == []) = false := by simpa using h0
    refine wp_region_later (by kernel_rfl) (by kernel_rfl) ?_
    repeat (first
      | go_big_quiet_skip
      | (refine wpQuiet_load_aggG rfl 28 _ rfl ⟨w.heap.size, 0, none⟩ rfl cx _ (by rintro _ ⟨q, rfl⟩; exact (HX.out.later (lat_below q)).cells) Tryd.underlying28 rfl Hsx.out ?_; simp only [Act.put, List.setIfInBounds_toArray, List.set_cons_succ, List.set_cons_zero])
      | (refine wpQuiet_load_aggG rfl 28 _ rfl ⟨w.heap.size + 1, 0, none⟩ rfl cy _ (by rintro _ ⟨q, rfl⟩; exact (HY.out.later (lat_below q)).cells) Tryd.underlying28 rfl Hsy.out ?_; simp only [Act.put, List.setIfInBounds_toArray, List.set_cons_succ, List.set_cons_zero])
      | go_big_quiet_step ((first | (go_at_call 14; with_reducible exact calls_later (D1.out _)) | (go_at_call 14; with_reducible exact calls_later (D2.out _)))))
    refine wpQuiet_nil ?_
    rintro _ ⟨q6, rfl⟩
    have hb6 := lat_below q6
    generalize lat q6 = w6 at *
    go_wp2
    go_ret
    refine ⟨?_, bth HB.out hb6⟩
    rw [HE.out.1, HE.out.2, hne]; rfl
end Go.Proofs.YtdefipnmjfnpeaaDoor
