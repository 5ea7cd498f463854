/- script.Get -/
import Derived.Test.YtdefipnmjfnpeaaDoorQScrStep

set_option maxRecDepth 100000
namespace Go.Spec
open Go.RowKit
theorem flat_getG (size : Nat) : ∀ (css : List (List Value)), (∀ x ∈ css, x.length = size) → ∀ (i : Nat) (hi : i < css.length) (j : Nat), j < size → css.flatten[i * size + j]? = (css[i])[j]?
  | [], _, i, hi, _, _ => by simp at hi
  | x :: xs, h, 0, _, j, hj => by
    have hx : x.length = size := h x List.mem_cons_self
    rw [List.flatten_cons, List.getElem?_append_left (by omega)]; simp
  | x :: xs, h, i + 1, hi, j, hj => by
    have hx : x.length = size := h x List.mem_cons_self
    rw [List.flatten_cons, Nat.add_mul, Nat.one_mul, List.getElem?_append_right (by omega), show i * size + size + j - x.length = i * size + j by omega]
    rw [flat_getG size xs (fun y hy => h y (List.mem_cons_of_mem _ hy)) i (by simpa using hi) j hj]
    simp
theorem SlAt.of_ownsG {w : World} {base e size : Nat} {v : Value} {css : List (List Value)} (h : w.ownsRow base e size v css.length css.flatten) (hs : ∀ x ∈ css, x.length = size) : SlAt w size v css := by
  rcases h.2 with ⟨rfl, h0⟩ | ⟨g, cap, cur, rfl, hb, hg, hnc, hcm, _⟩
  · have : css = [] := List.eq_nil_of_length_eq_zero h0
    subst this
    exact ⟨none, 0, rfl, Nat.le_refl _, fun _ h => by simp at h, fun i cs h => by simp at h⟩
  · refine ⟨_, cap, rfl, hnc, hs, fun i cs hi => ⟨g, 0, rfl, (Array.getElem?_eq_some_iff.1 hg).1, fun j u hj => ?_⟩⟩
    have hi' : i < css.length := (List.getElem?_eq_some_iff.1 hi).1
    have he : cs = css[i] := by rw [List.getElem?_eq_getElem hi'] at hi; injection hi with hi; exact hi.symm
    subst he
    have hj' : j < size := by
      have := (List.getElem?_eq_some_iff.1 hj).1
      rwa [hs _ (List.getElem_mem hi')] at this
    have hx := h.cells (g := g) rfl (i * size + j) u (by rw [flat_getG size css hs i hi' j hj']; exact hj)
    rw [Addr.add_lit] at hx
    rw [show 0 + i * size + j = 0 + (i * size + j) by omega]
    exact hx
theorem SlAt.nilG (w : World) (size : Nat) : SlAt w size (.slice none 0 0) [] := ⟨none, 0, rfl, Nat.le_refl _, fun _ h => by simp at h, fun i cs h => by simp at h⟩
end Go.Spec
namespace Go.Proofs.YtdefipnmjfnpeaaDoor
open Go.RowKit Go.Spec
theorem cut_any (s : List UInt8) (w : World) (hs : s.length ≤ 4000000000) (hG : ScrG w) :
    Calls Tryd.prog 16 #[sv s, .string ⟨#[10]⟩] w fun e w' => e = .returned (.tuple #[sv (Lib.cut s [10]).1, sv (Lib.cut s [10]).2.1, .bool (Lib.cut s [10]).2.2]) ∧ Below w.heap.size w w' := by
  obtain ⟨m, hm⟩ := hG.max
  refine (Tryd.strings_Cut (mkS s) ⟨#[10]⟩ m w (by rw [mkS_size]; omega) hm).mono ?_
  rintro e w' ⟨rfl, n, rfl⟩
  have hd : (mkS s).data.toList = s := by simp [mkS]
  rw [hd]
  exact ⟨rfl, rfl, rfl, rfl, Nat.le_refl _, fun _ _ => rfl⟩
theorem Tryd.infoStep : (Tryd.prog.info? 28).map (fun i => (i.zero, i.size, i.bytes)) = some (some (.agg zeroStp), 5, 48) := by kernel_rfl
theorem Tryd.infoStep2 : (Tryd.prog.info? 28).map (fun i => (i.zero, i.size)) = some (some (.agg zeroStp), 5) := by kernel_rfl
def stpsF (xs : List Stp) : List Value := (xs.map fun x => x.cs.toList).flatten
theorem stpsF_snoc (xs : List Stp) (x : Stp) : stpsF (xs ++ [x]) = stpsF xs ++ x.cs.toList := by simp [stpsF]
theorem StpsAt.of_owns {w : World} {base e : Nat} {v : Value} {xs : List Stp} (h : w.ownsRow base e 5 v xs.length (stpsF xs)) : StpsAt w v xs :=
  SlAt.of_ownsG (by rw [List.length_map]; exact h) (fun c hc => by obtain ⟨x, _, rfl⟩ := List.mem_map.1 hc; rfl)
theorem flat_len (xs : List Stp) (h : ∀ x ∈ xs, x.Ok) : xs.length ≤ (flatL xs).length := by
  induction xs with
  | nil => simp
  | cons x l ih =>
    have h1 := ih fun y hy => h y (List.mem_cons_of_mem _ hy)
    have h2 := line_ok x (h x (List.mem_cons_self ..))
    rw [flatL_cons, List.length_append, h2, List.length_append, List.length_cons]
    simp; omega
def sizeOfS : Value → Nat
  | .string b => b.size
  | _ => 0
theorem sizeOfS_sv (l : List UInt8) : sizeOfS (sv l) = l.length := mkS_size l
def GetX (w' : World) (s : List UInt8) (e : Ending) : Prop := ∃ xs r, GetR s xs r ∧ ((r = [] ∧ ∃ v, e = .returned (.tuple #[v, .int .i64 0, .int .i64 0]) ∧ StpsAt w' v xs) ∨ (r ≠ [] ∧ e = .returned (.tuple #[.slice none 0 0, .int .i64 ((xs.length + 1 : Nat) : Int), .int .i64 10])))
set_option maxHeartbeats 16000000 in
theorem get_any (s : List UInt8) (w : World) (hs : s.length ≤ 50000000) (hG : ScrG w) :
    Calls Tryd.prog 10 #[sv s] w fun e w' => GetX w' s e ∧ Below w.heap.size w w' := by
  obtain ⟨i0, hi0, hz0, hz1, hz2⟩ := info_parts Tryd.infoStep
  have HI0 := hid hi0; clear hi0
  have HG := hid hG; clear hG
  go_enter Tryd.func10, Tryd.ntmps10
  go_upto_region 1 with fail
  go_loopw [0, 2, 3] (fun q v ln wr => ∃ (xs : List Stp) (rest : List UInt8), s = flatL xs ++ rest ∧ (∀ x ∈ xs, x.Ok) ∧ q = sv rest ∧ ln = .int .i64 (xs.length : Int) ∧ wr.ownsRow w.heap.size 28 5 v xs.length (stpsF xs) ∧ Below w.heap.size w wr) (fun q _ _ _ => sizeOfS q)
  case atStart => exact ⟨[], s, rfl, by simp, rfl, rfl, World.ownsRow_nil _ _ _ _, Below.refl _ _⟩
  case round =>
    obtain ⟨xs, rest, he, hok, rfl, rfl, hown, hb⟩ := hrel
    have hxl : xs.length ≤ 50000000 := by
      have := flat_len xs hok
      have h2 := congrArg List.length he
      rw [List.length_append] at h2; omega
    have hrl : rest.length ≤ 50000000 := by
      have h2 := congrArg List.length he
      rw [List.length_append] at h2; omega
    have HE := hid he; have HOK := hid hok; have HO := hid hown; have HB := hid hb
    clear he hok hown hb
    by_cases h0 : rest = []
    · subst h0
      have HX := hid (show GetX wr s (.returned (.tuple #[u2, .int .i64 0, .int .i64 0])) from ⟨xs, [], ⟨HOK.out, HE.out, noLine_nil⟩, .inl ⟨rfl, ⟨u2, rfl, StpsAt.of_owns HO.out⟩⟩⟩)
      go_wp2_with fail
      go_ret3
      exact ⟨HX.out, HB.out⟩
    · have hne : (rest == []) = false := by simpa using h0
      have H0 := hid h0; clear h0
      have C1 := hid (cut_any rest wr (by omega) (HG.out.later HB.out))
      rcases cut_spec rest with ⟨one, z, hr, h10, hc⟩ | ⟨h10, hc⟩
      · rw [hc] at C1
        simp only at C1
        have C2 := hid (fun w9 h9 => step_any one w9 (by have := congrArg List.length hr; rw [List.length_append] at this; omega) h9)
        cases hsb : stepB one with
        | true =>
          rw [hsb] at C2
          have HZ := hid (show s = flatL (xs ++ [parseL one]) ++ z ∧ ∀ x ∈ xs ++ [parseL one], x.Ok from by
            obtain ⟨h1, h2⟩ := stepB_true hsb
            refine ⟨?_, fun x hx => ?_⟩
            · rw [flatL_append, flatL_cons, flatL_nil, h2, HE.out, hr]; simp
            · rcases List.mem_append.1 hx with h | h
              · exact HOK.out x h
              · rw [List.mem_singleton] at h; subst h; exact h1)
          have HPL := hid (show ∀ x : Stp, x.Ok → lineL x = one ++ [10] → x = parseL one from fun x h1 h2 => (parse_line x h1 one h2).symm)
          have HR := hid (show z.length < rest.length from by rw [hr]; simp; omega)
          clear hsb hc hr h10
          go_wp2_with (first
            | (go_at_call 16; refine C1.out.mono ?_; rintro e w5 ⟨rfl, hb5⟩; have HB5 := hid (bth HB.out hb5); have HO5 := hid (HO.out.later hb5))
            | (go_at_call 17; refine (C2.out _ (HG.out.later HB5.out)).mono ?_; rintro e w6 ⟨⟨x, rfl, hx⟩, hb6⟩; have HB6 := hid (bth HB5.out hb6); have HO6 := hid ((HO5.out.later hb6).alloc (.cells x.cs 28)); have HX := hid hx; clear hx)
            | ((with_reducible show wpList _ _ _ ({ dst := _, op := Op.store _ _ _, type := _, pos := _, after := _, guard := _ } :: _) _ _); refine wpList_store_newA rfl 28 _ _ rfl rfl x.cs rfl _ 28 rfl Tryd.sizeStep (stp_one _) ?_)
            | ((with_reducible show wpList _ _ _ ({ dst := _, op := Op.load 28 _, type := _, pos := _, after := _, guard := _ } :: _) _ _); refine wpList_load_newA rfl 28 _ rfl rfl x.cs 28 _ Tryd.underlying28 rfl Tryd.sizeStep ?_)
            | (refine wpList_buildSlice_one rfl 22 28 _ rfl 5 (.agg zeroStp) (.agg x.cs) x.cs rfl Tryd.underlying22 Tryd.infoStep2 rfl rfl (by decide) (by decide) ?_)
            | (at_builtin; go_must (refine wpList_app rfl _ _ 22 rfl w.heap.size 28 i0 (.agg zeroStp) 5 48 Tryd.underlying22 HI0.out hz0 hz1 hz2 rfl (by decide) _ xs.length (stpsF xs) rfl ?c1 ⟨(w6.alloc (.cells x.cs 28)).heap.size, 0, none⟩ 1 1 x.cs.toList rfl rfl ?c3 (stp_one x) ?c5 ?c6 ?c7 ?_)))
          case c1 => exact HO6.out.alloc _
          case c3 => exact (Blk.new (w6.alloc (.cells x.cs 28)) x.cs 28).cells
          case c5 => unfold maxLen; omega
          case c6 => omega
          case c7 => have := HB6.out.size; simp; omega
          intro v' w8 hown' hgrow hat
          have HB8 := hid (((HB6.out.alloc HB6.out.size (.cells x.cs 28)).alloc (by have := HB6.out.size; simp; omega) _).grown hgrow (by have := HB6.out.size; simp; omega) (fun q hq => (HO.out.lt q hq).1))
          have hxe : x = parseL one := HPL.out x (HX.out trivial).1 (HX.out trivial).2
          have HO8 := hid (show w8.ownsRow w.heap.size 28 5 v' (xs ++ [parseL one]).length (stpsF (xs ++ [parseL one])) from by rw [stpsF_snoc, List.length_append, ← hxe]; exact hown')
          clear hown' hgrow hat hxe
          go_wp2
          go_roundw
          case rel => exact ⟨xs ++ [parseL one], z, HZ.out.1, HZ.out.2, rfl, by rw [List.length_append]; go_num, HO8.out, HB8.out⟩
          case measure => rw [sizeOfS_sv, sizeOfS_sv]; exact HR.out
        | false =>
          rw [hsb] at C2
          have HX := hid (show ∀ w9, GetX w9 s (.returned (.tuple #[.slice none 0 0, .int .i64 ((xs.length + 1 : Nat) : Int), .int .i64 10])) from fun w9 => ⟨xs, rest, ⟨HOK.out, HE.out, by rw [hr]; exact noLine_bad h10 hsb⟩, .inr ⟨H0.out, rfl⟩⟩)
          clear hsb hc hr h10
          go_wp2_with (first
            | (go_at_call 16; refine C1.out.mono ?_; rintro e w5 ⟨rfl, hb5⟩; have HB5 := hid (bth HB.out hb5))
            | (go_at_call 17; refine (C2.out _ (HG.out.later HB5.out)).mono ?_; rintro e w6 ⟨⟨x, rfl, _⟩, hb6⟩; have HB6 := hid (bth HB5.out hb6))
            | ((with_reducible show wpList _ _ _ ({ dst := _, op := Op.store _ _ _, type := _, pos := _, after := _, guard := _ } :: _) _ _); refine wpList_store_newA rfl 28 _ _ rfl rfl x.cs rfl _ 28 rfl Tryd.sizeStep (stp_one _) ?_))
          go_ret3
          exact ⟨HX.out _, HB6.out.alloc HB6.out.size _⟩
      · rw [hc] at C1
        simp only at C1
        have HX := hid (show ∀ w9, GetX w9 s (.returned (.tuple #[.slice none 0 0, .int .i64 ((xs.length + 1 : Nat) : Int), .int .i64 10])) from fun w9 => ⟨xs, rest, ⟨HOK.out, HE.out, noLine_open h10⟩, .inr ⟨H0.out, rfl⟩⟩)
        have C2 := hid (fun w9 h9 => step_any rest w9 hrl h9)
        obtain ⟨sb, hsb⟩ : ∃ b, stepB rest = b := ⟨_, rfl⟩
        rw [hsb] at C2
        clear hsb hc h10
        cases sb
        all_goals go_wp2_with (first
            | (go_at_call 16; refine C1.out.mono ?_; rintro e w5 ⟨rfl, hb5⟩; have HB5 := hid (bth HB.out hb5))
            | (go_at_call 17; refine (C2.out _ (HG.out.later HB5.out)).mono ?_; rintro e w6 ⟨⟨x, rfl, _⟩, hb6⟩; have HB6 := hid (bth HB5.out hb6))
            | ((with_reducible show wpList _ _ _ ({ dst := _, op := Op.store _ _ _, type := _, pos := _, after := _, guard := _ } :: _) _ _); refine wpList_store_newA rfl 28 _ _ rfl rfl x.cs rfl _ 28 rfl Tryd.sizeStep (stp_one _) ?_))
        all_goals go_ret3
        all_goals exact ⟨HX.out _, HB6.out.alloc HB6.out.size _⟩
end Go.Proofs.YtdefipnmjfnpeaaDoor
