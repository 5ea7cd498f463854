/- CodecForm: the law's walk, joined out of its sixteen ways. -/
import Derived.Test.YtnfblddoafhdlaaForm03p
set_option maxRecDepth 100000
namespace Go.Proofs.Ytnfblddoafhdlaa
open Go.RowKit Go.Spec
set_option maxHeartbeats 4000000 in
theorem form_law (l : List UInt8) (w : World) (hl : l.length ≤ 9223372036854775807) :
    Calls Try.prog 7 #[sv l] w fun e w' => e = .returned (.bool true) ∧ Below w.heap.size w w' := by
  have HB := Below.refl w.heap.size w
  by_cases h1 : 2500 < l.length
  · have hd : decide ((2500 : Int) < (l.length : Int)) = true := by simp; omega
    clear h1
    go_enter Try.func7, Try.ntmps7
    go_wp2_with (go_at_call 8; refine (coded_any _).mono ?_; rintro e w1 ⟨rfl, hb⟩; replace HB := bch HB hb; clear hb)
    go_ret
    exact ⟨rfl, HB⟩
  · have hd : decide ((2500 : Int) < (l.length : Int)) = false := by simp; omega
    have h1' : l.length ≤ 2500 := by omega
    clear h1 hl
    obtain ⟨cA, cB⟩ := form_rd l
    obtain ⟨fA, fB⟩ := form_cut l
    obtain ⟨iA, iB⟩ := form_un l
    obtain ⟨mA, mB⟩ := form_us l
    have hX := unT_len l
    have hS32 := us_32 l
    have hS := us_le l
    have hread := fun w => read_gen l w (by omega)
    have hcut := fun w => cut_gen l w (by omega)
    have hun := fun w => unhash_gen l w (by omega)
    have hus : ∀ w, Calls Try.prog 23 #[sv l] w fun e w' => ∃ a cap, e = .returned (.tuple #[.slice a (usX l).length cap, sv (usR l), .bool (usB l)]) ∧ SlAt w' 32 (.slice a (usX l).length cap) (hcs (usX l)) ∧ Below w.heap.size w w' :=
      fun w => (unhashes_gen l w (by omega)).mono fun _ _ ⟨a, cap, he, hg⟩ => ⟨a, cap, he, hg.at_, hg.below⟩
    generalize rdN l = N at *
    generalize rdR l = R at *
    generalize rdB l = c at *
    generalize cuT l = D at *
    generalize cuR l = E at *
    generalize cuB l = f at *
    generalize unT l = G at *
    generalize unR l = I at *
    generalize unB l = i at *
    generalize usX l = K at *
    generalize usR l = L at *
    generalize usB l = m at *
    have Hread := hid hread; have Hcut := hid hcut; have Hun := hid hun; have Hus := hid hus
    clear hread hcut hun hus
    have HS32 := hid hS32
    clear hS32
    have Hx := hid hX
    have Hsx := hid (show (Try.prog.info? 27).map (·.size) = some G.length by rw [hX]; exact Try.sizeHash)
    have Hsx2 := hid (show (Try.prog.info? 27).map (·.size) = some (hc G).size by rw [hc_size, hX]; exact Try.sizeHash)
    have hz32 : zero32.length = 32 := rfl
    have hs5 := Try.sizeU8
    have hge := Try.guardHash
    have HN := hid (show N < 18446744073709551616 by
      cases c with
      | true => exact (cA rfl).2
      | false => rw [(cB rfl).1]; omega)
    have hD : D.length ≤ 2500 := by
      cases f with
      | true => have := (fA rfl).2; omega
      | false => rw [(fB rfl).1]; simp
    have hnD := numL_len D.length (by omega)
    have hnN := numL_len N HN.out
    have hR : R.length ≤ 2500 := by
      cases c with
      | true =>
        have := congrArg List.length (beq_iff_eq.1 (cA rfl).1)
        rw [List.length_append] at this; omega
      | false => rw [(cB rfl).2]; simp
    have hE : E.length ≤ 2500 := by
      cases f with
      | true =>
        have := congrArg List.length (beq_iff_eq.1 (fA rfl).1)
        rw [List.length_append, List.length_append] at this; omega
      | false => rw [(fB rfl).2]; simp
    have hI : I.length ≤ 2500 := by
      cases i with
      | true =>
        have := congrArg List.length (beq_iff_eq.1 (iA rfl))
        rw [List.length_append] at this; omega
      | false => rw [(iB rfl).2]; simp
    have hHK : (hashesL K).length ≤ 2500 ∧ L.length ≤ 2500 := by
      cases m with
      | true =>
        have := congrArg List.length (beq_iff_eq.1 (mA rfl))
        rw [List.length_append] at this; omega
      | false => rw [(mB rfl).1, (mB rfl).2]; exact ⟨by decide, by simp⟩
    obtain ⟨hHK, hL⟩ := hHK
    have kc : (c = true ∧ (numL N ++ R == l) = true) ∨ (c = false ∧ N = 0 ∧ R = []) := by
      cases c with
      | true => exact .inl ⟨rfl, (cA rfl).1⟩
      | false => exact .inr ⟨rfl, cB rfl⟩
    have kf : (f = true ∧ (numL D.length ++ (D ++ E) == l) = true) ∨ (f = false ∧ D = [] ∧ E = []) := by
      cases f with
      | true => exact .inl ⟨rfl, (fA rfl).1⟩
      | false => exact .inr ⟨rfl, fB rfl⟩
    have ki : (i = true ∧ (G ++ I == l) = true) ∨ (i = false ∧ (G == zero32) = true ∧ I = []) := by
      cases i with
      | true => exact .inl ⟨rfl, iA rfl⟩
      | false => exact .inr ⟨rfl, by rw [(iB rfl).1]; decide, (iB rfl).2⟩
    have km : (m = true ∧ (hashesL K ++ L == l) = true) ∨ (m = false ∧ K = [] ∧ L = []) := by
      cases m with
      | true => exact .inl ⟨rfl, mA rfl⟩
      | false => exact .inr ⟨rfl, mB rfl⟩
    clear cA cB fA fB iA iB mA mB
    rcases kc with ⟨rfl, c1⟩ | ⟨rfl, rfl, rfl⟩ <;> rcases kf with ⟨rfl, f1⟩ | ⟨rfl, rfl, rfl⟩ <;> rcases ki with ⟨rfl, i1⟩ | ⟨rfl, i1, rfl⟩ <;> rcases km with ⟨rfl, m1⟩ | ⟨rfl, rfl, rfl⟩
    · exact form_1111 l G R D E I L N K w h1' Hread.out Hcut.out Hun.out Hus.out HN.out hR c1 hD hE f1 hI i1 hS hHK hL m1 hX
    · exact form_1110 l G R D E I N w h1' Hread.out Hcut.out Hun.out Hus.out HN.out hR c1 hD hE f1 hI i1 hX
    · exact form_1101 l G R D E L N K w h1' Hread.out Hcut.out Hun.out Hus.out HN.out hR c1 hD hE f1 i1 hS hHK hL m1 hX
    · exact form_1100 l G R D E N w h1' Hread.out Hcut.out Hun.out Hus.out HN.out hR c1 hD hE f1 i1 hX
    · exact form_1011 l G R I L N K w h1' Hread.out Hcut.out Hun.out Hus.out HN.out hR c1 hI i1 hS hHK hL m1 hX
    · exact form_1010 l G R I N w h1' Hread.out Hcut.out Hun.out Hus.out HN.out hR c1 hI i1 hX
    · exact form_1001 l G R L N K w h1' Hread.out Hcut.out Hun.out Hus.out HN.out hR c1 i1 hS hHK hL m1 hX
    · exact form_1000 l G R N w h1' Hread.out Hcut.out Hun.out Hus.out HN.out hR c1 i1 hX
    · exact form_0111 l G D E I L K w h1' Hread.out Hcut.out Hun.out Hus.out hD hE f1 hI i1 hS hHK hL m1 hX
    · exact form_0110 l G D E I w h1' Hread.out Hcut.out Hun.out Hus.out hD hE f1 hI i1 hX
    · exact form_0101 l G D E L K w h1' Hread.out Hcut.out Hun.out Hus.out hD hE f1 i1 hS hHK hL m1 hX
    · exact form_0100 l G D E w h1' Hread.out Hcut.out Hun.out Hus.out hD hE f1 i1 hX
    · exact form_0011 l G I L K w h1' Hread.out Hcut.out Hun.out Hus.out hI i1 hS hHK hL m1 hX
    · exact form_0010 l G I w h1' Hread.out Hcut.out Hun.out Hus.out hI i1 hX
    · exact form_0001 l G L K w h1' Hread.out Hcut.out Hun.out Hus.out i1 hS hHK hL m1 hX
    · exact form_0000 l G w h1' Hread.out Hcut.out Hun.out Hus.out i1 hX
end Go.Proofs.Ytnfblddoafhdlaa
