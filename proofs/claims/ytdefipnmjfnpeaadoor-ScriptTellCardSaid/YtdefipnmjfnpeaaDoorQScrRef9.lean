/- the document's script: Get -/
import Derived.Test.YtdefipnmjfnpeaaDoorQScrGet
import Derived.Test.YtdefipnmjfnpeaaDoorQScrRef8

set_option maxRecDepth 100000
namespace Go.Proofs.YtdefipnmjfnpeaaDoor
open Go.RowKit Go.Spec
theorem Tryd.infoStepR : (Tryd.prog.info? 27).map (fun i => (i.zero, i.size, i.bytes)) = some (some (.agg zeroStp), 5, 48) := by kernel_rfl
theorem Tryd.infoStepR2 : (Tryd.prog.info? 27).map (fun i => (i.zero, i.size)) = some (some (.agg zeroStp), 5) := by kernel_rfl
/-- the piece behind a whole line, up to an end of a line -/
theorem piece_end (s : List UInt8) (f k : Nat) (hf : f ≤ k) (hk : s[k]? = some 10) : s.drop f = (s.take k).drop f ++ 10 :: s.drop (k + 1) := by
  have hlt : k < s.length := (List.getElem?_eq_some_iff.1 hk).1
  have h1 : s = s.take k ++ s.drop k := (List.take_append_drop k s).symm
  have h2 : s.drop k = 10 :: s.drop (k + 1) := by
    rw [List.drop_eq_getElem_cons hlt]; congr 1
    exact (List.getElem?_eq_some_iff.1 hk).2
  have h3 : s.drop f = (s.take k ++ s.drop k).drop f := by rw [← h1]
  rw [h3, List.drop_append_of_le_length (by rw [List.length_take]; omega), h2]
theorem piece_next (s : List UInt8) (f k : Nat) (c : UInt8) (hf : f ≤ k) (hk : s[k]? = some c) : (s.take (k + 1)).drop f = (s.take k).drop f ++ [c] := by
  have hlt : k < s.length := (List.getElem?_eq_some_iff.1 hk).1
  rw [List.take_add_one, hk, List.drop_append_of_le_length (by rw [List.length_take]; omega)]; rfl
set_option maxHeartbeats 16000000 in
theorem rget_any (s : List UInt8) (w : World) (hs : s.length ≤ 50000000) :
    Calls Tryd.prog 11 #[sv s] w fun e w' => GetX w' s e ∧ Below w.heap.size w w' := by
  obtain ⟨i0, hi0, hz0, hz1, hz2⟩ := info_parts Tryd.infoStepR
  have HI0 := hid hi0; clear hi0
  go_enter Tryd.func11, Tryd.ntmps11
  go_upto_region 4 with fail
  go_loopw [5, 6, 7, 8] (fun v ln fr i wr => ∃ (xs : List Stp) (f k : Nat), f ≤ k ∧ k ≤ s.length ∧ xs.length ≤ f ∧ s = flatL xs ++ s.drop f ∧ (∀ x ∈ xs, x.Ok) ∧ (∀ c ∈ (s.take k).drop f, c ≠ 10) ∧ ln = .int .i64 ((xs.length + 1 : Nat) : Int) ∧ fr = .int .i64 (f : Int) ∧ i = .int .i64 (k : Int) ∧ wr.ownsRow w.heap.size 27 5 v xs.length (stpsF xs) ∧ Below w.heap.size w wr) (fun _ _ _ i _ => s.length - (intOf i).toNat)
  case atStart => exact ⟨[], 0, 0, by omega, by omega, by simp, rfl, by simp, by simp, rfl, rfl, rfl, World.ownsRow_nil _ _ _ _, Below.refl _ _⟩
  case round =>
    obtain ⟨xs, f, k, hf, hk, hxf, he, hok, h10, rfl, rfl, rfl, hown, hb⟩ := hrel
    have HE := hid he; have HOK := hid hok; have HO := hid hown; have HB := hid hb; have H10 := hid h10
    have hxl : xs.length ≤ 50000000 := by omega
    clear he hok hown hb h10
    obtain ⟨n, hn⟩ : ∃ n, xs.length + 1 = n := ⟨_, rfl⟩
    have hnl : n ≤ 50000001 := by omega
    simp only [hn]
    have Hn := hid hn; clear hn
    by_cases hlt : k < s.length
    · have hkI : (k : Int) < (s.length : Int) := by omega
      obtain ⟨c, hc⟩ : ∃ c, s[k] = c := ⟨_, rfl⟩
      have hc' : s[k]? = some c := by rw [List.getElem?_eq_getElem hlt, hc]
      by_cases hcn : c = 10
      · subst hcn
        obtain ⟨one, h1⟩ : ∃ one, (s.take k).drop f = one := ⟨_, rfl⟩
        have hpe := piece_end s f k hf hc'
        rw [h1] at hpe
        have hol : one.length ≤ 50000000 := by rw [← h1, List.length_drop, List.length_take]; omega
        have h10 : ∀ c ∈ one, c ≠ 10 := by rw [← h1]; exact H10.out
        have hfk : (f : Int) ≤ (k : Int) := by omega
        have hkl : (k : Int) ≤ (s.length : Int) := by omega
        have C2 := hid (fun w9 => rstep_any one w9 hol)
        cases hsb : stepB one with
        | true =>
          rw [hsb] at C2
          have HZ := hid (show s = flatL (xs ++ [parseL one]) ++ s.drop (k + 1) ∧ ∀ x ∈ xs ++ [parseL one], x.Ok from by
            obtain ⟨h1, h2⟩ := stepB_true hsb
            refine ⟨?_, fun x hx => ?_⟩
            · have he := HE.out
              rw [hpe] at he
              rw [flatL_append, flatL_cons, flatL_nil, h2]
              calc s = _ := he
                _ = _ := by simp
            · rcases List.mem_append.1 hx with h | h
              · exact HOK.out x h
              · rw [List.mem_singleton] at h; subst h; exact h1)
          have HPL := hid (show ∀ x : Stp, x.Ok → lineL x = one ++ [10] → x = parseL one from fun x h1 h2 => (parse_line x h1 one h2).symm)
          obtain ⟨k1, hk1⟩ : ∃ k1, k + 1 = k1 := ⟨_, rfl⟩
          obtain ⟨n1, hn1⟩ : ∃ n1, n + 1 = n1 := ⟨_, rfl⟩
          have hk1I : (k : Int) + 1 = (k1 : Int) := by omega
          have hn1I : (n : Int) + 1 = (n1 : Int) := by omega
          have hk1l : k1 ≤ 50000000 := by omega
          have hn1l : n1 ≤ 50000002 := by omega
          have HL := hid (show n ≤ k1 by have := Hn.out; omega)
          have Hk1 := hid hk1; have Hn1 := hid hn1
          rw [hk1] at HZ
          clear hsb hpe h10 hk1 hn1
          go_wp2_with (first
            | (go_at_call 18; refine (C2.out _).mono ?_; rintro e w6 ⟨⟨x, rfl, hx⟩, hb6⟩; have HB6 := hid (bth HB.out hb6); have HO6 := hid ((HO.out.later hb6).alloc (.cells x.cs 27)); have HX := hid hx; clear hx)
            | ((with_reducible show wpList _ _ _ ({ dst := _, op := Op.store _ _ _, type := _, pos := _, after := _, guard := _ } :: _) _ _); refine wpList_store_newA rfl 27 _ _ rfl rfl x.cs rfl _ 27 rfl Tryd.sizeStepR (stp_one _) ?_)
            | ((with_reducible show wpList _ _ _ ({ dst := _, op := Op.load 27 _, type := _, pos := _, after := _, guard := _ } :: _) _ _); refine wpList_load_newA rfl 27 _ rfl rfl x.cs 27 _ Tryd.underlying27 rfl Tryd.sizeStepR ?_)
            | (refine wpList_buildSlice_one rfl 25 27 _ rfl 5 (.agg zeroStp) (.agg x.cs) x.cs rfl Tryd.underlying25 Tryd.infoStepR2 rfl rfl (by decide) (by decide) ?_)
            | (at_builtin; go_must (refine wpList_app rfl _ _ 25 rfl w.heap.size 27 i0 (.agg zeroStp) 5 48 Tryd.underlying25 HI0.out hz0 hz1 hz2 rfl (by decide) _ xs.length (stpsF xs) rfl ?c1 ⟨(w6.alloc (.cells x.cs 27)).heap.size, 0, none⟩ 1 1 x.cs.toList rfl rfl ?c3 (stp_one x) ?c5 ?c6 ?c7 ?_)))
          case c1 => exact HO6.out.alloc _
          case c3 => exact (Blk.new (w6.alloc (.cells x.cs 27)) x.cs 27).cells
          case c5 => unfold maxLen; omega
          case c6 => omega
          case c7 => have := HB6.out.size; simp; omega
          intro v' w8 hown' hgrow hat
          have HB8 := hid (((HB6.out.alloc HB6.out.size (.cells x.cs 27)).alloc (by have := HB6.out.size; simp; omega) _).grown hgrow (by have := HB6.out.size; simp; omega) (fun q hq => (HO.out.lt q hq).1))
          have hxe : x = parseL one := HPL.out x (HX.out trivial).1 (HX.out trivial).2
          have HO8 := hid (show w8.ownsRow w.heap.size 27 5 v' (xs ++ [parseL one]).length (stpsF (xs ++ [parseL one])) from by rw [stpsF_snoc, List.length_append, ← hxe]; exact hown')
          clear hown' hgrow hat hxe
          go_wp2
          go_roundw
          case rel =>
            refine ⟨xs ++ [parseL one], k1, k1, Nat.le_refl _, by have := Hk1.out; omega, by rw [List.length_append, List.length_singleton]; have := Hn.out; have := HL.out; omega, HZ.out.1, HZ.out.2, ?_, ?_, by go_num, by go_num, HO8.out, HB8.out⟩
            · rw [List.drop_eq_nil_of_le (by rw [List.length_take]; omega)]; simp
            · rw [List.length_append, List.length_singleton, Hn.out, Hn1.out]
          case measure => simp [intOf]; have := Hk1.out; omega
        | false =>
          rw [hsb] at C2
          have HX := hid (show ∀ w9, GetX w9 s (.returned (.tuple #[.slice none 0 0, .int .i64 (n : Int), .int .i64 10])) from fun w9 => ⟨xs, s.drop f, ⟨HOK.out, HE.out, by rw [hpe]; exact noLine_bad h10 hsb⟩, .inr ⟨by rw [hpe]; simp, by rw [Hn.out]⟩⟩)
          clear hsb hpe h10
          go_wp2_with (first
            | (go_at_call 18; refine (C2.out _).mono ?_; rintro e w6 ⟨⟨x, rfl, _⟩, hb6⟩; have HB6 := hid (bth HB.out hb6))
            | ((with_reducible show wpList _ _ _ ({ dst := _, op := Op.store _ _ _, type := _, pos := _, after := _, guard := _ } :: _) _ _); refine wpList_store_newA rfl 27 _ _ rfl rfl x.cs rfl _ 27 rfl Tryd.sizeStepR (stp_one _) ?_))
          go_ret3
          exact ⟨HX.out _, HB6.out.alloc HB6.out.size _⟩
      · have hne : ¬ ((c.toNat : Int) = 10) := fun h => hcn (UInt8.toNat.inj (by simp; omega))
        have hne2 : ¬ c.toNat = 10 := fun h => hcn (UInt8.toNat.inj (by simp; omega))
        have H10' := hid (show ∀ b ∈ (s.take (k + 1)).drop f, b ≠ 10 from fun b hb => by
          rw [piece_next s f k c hf hc', List.mem_append, List.mem_singleton] at hb
          rcases hb with hb | rfl
          · exact H10.out b hb
          · exact hcn)
        clear hcn hc'
        go_wp2
        go_roundw
        case rel => exact ⟨xs, f, k + 1, by omega, by omega, by omega, HE.out, HOK.out, H10'.out, by rw [Hn.out], rfl, by go_num, HO.out, HB.out⟩
        case measure => simp [intOf]; omega
    · obtain rfl : k = s.length := by omega
      rw [List.take_length] at H10
      by_cases hfl : f < s.length
      · have hfI : (f : Int) < (s.length : Int) := by omega
        have HX := hid (show ∀ w9, GetX w9 s (.returned (.tuple #[.slice none 0 0, .int .i64 (n : Int), .int .i64 10])) from fun w9 => ⟨xs, s.drop f, ⟨HOK.out, HE.out, noLine_open H10.out⟩, .inr ⟨fun h => by have := congrArg List.length h; rw [List.length_drop, List.length_nil] at this; omega, by rw [Hn.out]⟩⟩)
        clear hlt
        go_wp2_with fail
        go_ret3
        exact ⟨HX.out _, HB.out⟩
      · obtain rfl : f = s.length := by omega
        have HX := hid (show GetX wr s (.returned (.tuple #[u5, .int .i64 0, .int .i64 0])) from ⟨xs, s.drop s.length, ⟨HOK.out, HE.out, by rw [List.drop_length]; exact noLine_nil⟩, .inl ⟨by rw [List.drop_length], ⟨u5, rfl, StpsAt.of_owns HO.out⟩⟩⟩)
        clear hlt hfl
        go_wp2_with fail
        go_ret3
        exact ⟨HX.out, HB.out⟩
end Go.Proofs.YtdefipnmjfnpeaaDoor
