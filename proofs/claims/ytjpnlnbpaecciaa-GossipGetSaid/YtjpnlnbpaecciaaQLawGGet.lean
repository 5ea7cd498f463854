/- GossipGet -/
import Derived.Test.YtjpnlnbpaecciaaQAnyOp
import Derived.Test.YtjpnlnbpaecciaaQGBackLaw
import Derived.Test.YtjpnlnbpaecciaaQGGetK
import Derived.Test.YtjpnlnbpaecciaaQGRGet
import Derived.Test.YtjpnlnbpaecciaaQGRGetK
import Derived.Test.YtjpnlnbpaecciaaQGRKnown
import Derived.Test.YtjpnlnbpaecciaaQGRPut
import Derived.Test.YtjpnlnbpaecciaaQSame30
import Derived.Test.YtjpnlnbpaecciaaQSigned
import Derived.Test.YtjpnlnbpaecciaaQStrs
import Derived.Test.YtjpnlnbpaecciaaQTalked
import Derived.Test.YtjpnlnbpaecciaaQTurned

set_option maxRecDepth 100000
namespace Go.Proofs.Ytjpnlnbpaecciaa
open Go.RowKit Go.Spec
def okEg {α : Type} (o : Option α) : Int := if o.isSome then 0 else 10
theorem GG.uni {l : List UInt8} {e : Ending} {w w' : World} (h : GG l e w w') : ∃ v ds, e = .returned (.tuple #[v, .int .i64 (okEg (getGL l))]) ∧ SgsAt w' v ds ∧ ds.map Sg.k = (getGL l).getD [] ∧ Below w.heap.size w w' := by
  cases hg : getGL l with
  | none => exact ⟨_, [], h.no hg, SgsAt.nil _, rfl, h.below⟩
  | some ks =>
    obtain ⟨v, ds, h1, h2, h3⟩ := h.yes ks hg
    exact ⟨v, ds, h1, h2, h3, h.below⟩
theorem GK.uni {l : List UInt8} {e : Ending} {w w' : World} (h : GK l e w w') : ∃ v, e = .returned (.tuple #[v, .int .i64 (okEg (getKL l))]) ∧ HdsAt w' v ((getKL l).getD []) ∧ Below w.heap.size w w' := by
  cases hg : getKL l with
  | none => exact ⟨_, h.no hg, HdsAt.nil _, h.below⟩
  | some hs =>
    obtain ⟨v, h1, h2⟩ := h.yes hs hg
    exact ⟨v, h1, h2, h.below⟩
theorem gO_len (l : List UInt8) : ((getGL l).getD []).length ≤ 3 := by
  cases hg : getGL l with
  | none => simp
  | some ks => exact (getGL_back l ks hg).2.2.1
def gtexts (s S1 S2 : List UInt8) (m1 m2 p q r : Nat) : List (List UInt8) := [s, S1, S2, S1 ++ s, S2 ++ s, S1.take m1, S2.take m2, turnL S1 p q r, turnL S2 p q r]
theorem gtexts_len {s S1 S2 : List UInt8} {m1 m2 p q r : Nat} (h0 : s.length ≤ 500) (h1 : S1.length ≤ 100000) (h2 : S2.length ≤ 100000) : ∀ t ∈ gtexts s S1 S2 m1 m2 p q r, t.length ≤ 1000000 := by
  intro t ht
  simp only [gtexts, List.mem_cons, List.not_mem_nil, or_false] at ht
  rcases ht with rfl | rfl | rfl | rfl | rfl | rfl | rfl | rfl | rfl
  all_goals first
    | omega
    | (rw [List.length_append]; omega)
    | (rw [List.length_take]; omega)
    | (rw [turnL_len]; omega)
theorem Try.sizeU3 : (Try.prog.info? 58).map (·.size) = some 3 := by kernel_rfl
set_option maxHeartbeats 16000000 in
theorem gossipGet_law (s : List UInt8) (v : Value) (rs : List Rg) (p q r : Nat) (W : World) (hs : s.length ≤ 9223372036854775807) (hv : RgsAt W v rs) (hl : rs.length ≤ 9223372036854775807) (hp : p < 65536) (hq : q < 65536) (hr : r < 65536) :
    Calls Try.prog 7 #[sv s, v, aV p q r] W fun e w' => e = .returned (.bool true) ∧ Below W.heap.size W w' := by
  obtain ⟨i0, hi, hz0, hz1, hz2⟩ := info_parts Try.infoHead
  have CS := hid (fun w0 (h : RgsAt w0 v rs) => signed_any v rs 3 w0 h hl (by decide))
  have Hv := hid hv
  have HP := hid hp; have HQ := hid hq; have HR := hid hr
  clear hv hp hq hr
  unfold aV
  cases hok : signedOk rs 3 with
  | false =>
    have Hok := hid hok; clear hok
    go_enter Try.func7, Try.ntmps7
    go_upto_region 1 with fail
    refine wp_world (fun w0 => Below W.heap.size W w0) ((Below.refl _ W).alloc (Nat.le_refl _) _) ?_
    intro w0 hb0
    go_wp2_with (first
      | (go_at_call 12; refine (CS.out _ (Hv.out.below hb0)).mono ?_; rintro e w1 ⟨hno, hyes, hb1⟩; obtain rfl := hno Hok.out; clear hno hyes)
      | (go_at_call 13; refine (talked_any _).mono ?_; rintro e w2 ⟨rfl, hb2⟩))
    go_ret
    exact ⟨rfl, bth (bth hb0 hb1) hb2⟩
  | true =>
  have Hok := hid hok; clear hok
  by_cases h80 : 500 < s.length
  · have d8 : decide ((500 : Int) < (s.length : Int)) = true := decide_eq_true (by omega)
    clear h80
    go_enter Try.func7, Try.ntmps7
    go_upto_region 1 with fail
    refine wp_world (fun w0 => Below W.heap.size W w0) ((Below.refl _ W).alloc (Nat.le_refl _) _) ?_
    intro w0 hb0
    go_wp2_with (first
      | (go_at_call 12; refine (CS.out _ (Hv.out.below hb0)).mono ?_; rintro e w1 ⟨hno, hyes, hb1⟩; obtain ⟨x, ds, rfl, hs1⟩ := hyes Hok.out; clear hno hyes hs1)
      | (go_at_call 13; refine (talked_any _).mono ?_; rintro e w2 ⟨rfl, hb2⟩))
    go_ret
    exact ⟨rfl, bth (bth hb0 hb1) hb2⟩
  have d8 : decide ((500 : Int) < (s.length : Int)) = false := decide_eq_false (by omega)
  have h80' : s.length ≤ 500 := by omega
  clear h80
  go_enter Try.func7, Try.ntmps7
  go_upto_region 1 with fail
  refine wp_world (fun w0 => Blk w0 W.heap.size #[.int .u16 (p : Int), .int .u16 (q : Int), .int .u16 (r : Int)] 58 ∧ Below W.heap.size W w0) ⟨Blk.new _ _ _, (Below.refl _ W).alloc (Nat.le_refl _) _⟩ ?_
  rintro w0 ⟨hB, hb0⟩
  go_upto_region 5 with (go_at_call 12; refine (CS.out _ (Hv.out.below hb0)).mono ?_; rintro e w1 ⟨hno, hyes, hb1⟩; obtain ⟨x, ds, rfl, hs1⟩ := hyes Hok.out; clear hno hyes)
  have HB := hid (hB.later hb1)
  have Hs := hid hs1; clear hs1
  have Hb1 := hid (bth hb0 hb1)
  obtain ⟨xa, xcap, rfl, _⟩ := Hs.out.at_.form
  have hdl := Hs.out.le
  clear hB hb0 hb1
  go_upto_region 6 with fail
  go_loopw [9, 10] (fun o i wr => ∃ (k : Nat) (L : List Hd), i = .int .i64 k ∧ k ≤ ds.length ∧ L.length ≤ k ∧ wr.ownsRow w1.heap.size 36 33 o L.length (hdF L) ∧ (∀ h ∈ L, h.r.length = 32) ∧ Below w1.heap.size w1 wr)
    (fun _ i _ => ds.length - (intOf i).toNat)
  case atStart => exact ⟨0, [], rfl, by omega, Nat.le_refl _, World.ownsRow_nil _ _ _ _, by simp, Below.refl _ _⟩
  case round =>
    obtain ⟨k, L, rfl, hk, hLl, hown, hok, hb⟩ := hrel
    obtain ⟨oa, ocap, rfl, hoc⟩ := ownsRow_form hown
    have Hown2 := hid hown; have Hok2 := hid hok
    clear hown hok
    by_cases hlt : k < ds.length
    · have hk64 : (k : Int) < (ds.length : Int) := by omega
      have hr := (Hs.out.at_.ok ds[k] (List.getElem_mem hlt)).r32
      obtain ⟨b, o, rfl, hbl, hcell⟩ := (Hs.out.at_.below hb).get hlt
      generalize ds[k] = d at *
      have Hc := hid (fun j u (h : (hdA d.z d.root).toList[j]? = some u) => hcell j u (hd_sg h))
      have Hsz := hid (show (Try.prog.info? 36).map (·.size) = some (hdA d.z d.root).size by rw [hdA_size hr]; exact Try.sizeHead)
      clear hcell
      have hwsz : w1.heap.size ≤ wr.heap.size := hb.size
      go_wp2_with (first
        | ((with_reducible show wpList _ _ _ ({ dst := _, op := Op.load 36 _, type := _, pos := _, after := _, guard := none } :: _) _ _); refine wpList_load_cs rfl 36 _ rfl ⟨b, o + k * 36, none⟩ rfl (hdA d.z d.root) _ Hc.out Try.underlying36 rfl Hsz.out ?_)
        | (refine wpList_buildSlice_one rfl 23 36 _ rfl 33 (.agg (hdA 0 zero32)) (.agg (hdA d.z d.root)) (hdA d.z d.root) rfl Try.underlying23 Try.infoHead2 rfl (hdA_size hr) (by decide) (by decide) ?_)
        | (at_builtin; go_must (refine wpList_app rfl _ _ 23 rfl w1.heap.size 36 i0 (.agg (hdA 0 zero32)) 33 40 Try.underlying23 hi hz0 hz1 hz2 rfl (by decide) _ L.length (hdF L) rfl ?c1 ⟨wr.heap.size, 0, none⟩ 1 1 (hdA d.z d.root).toList rfl ?c2 ?c3 ?c4 ?c5 ?c6 ?c7 ?_)))
      case c1 => exact Hown2.out.alloc _
      case c2 => rw [Array.length_toList, hdA_size hr]
      case c3 => exact fun j u hj => row_alloc (w := wr) j u hj
      case c4 => exact hdA_one
      case c5 => unfold maxLen; omega
      case c6 => omega
      case c7 => simp; omega
      intro v9 w8 hown' hgrow hat
      have HB8 := hid ((hb.alloc hwsz _).grown hgrow (by simp; omega) (fun q hq => (Hown2.out.lt q hq).1))
      have HownN := hid (show w8.ownsRow w1.heap.size 36 33 v9 (L.length + 1) (hdF (L ++ [⟨d.z, d.root⟩])) by rw [hdF_snoc]; exact hown')
      clear hown' hgrow hat
      go_wp2
      go_roundw
      case rel =>
        refine ⟨k + 1, L ++ [⟨d.z, d.root⟩], by go_num, by omega, by rw [List.length_append]; simp; omega, by rw [List.length_append]; exact HownN.out, ?_, HB8.out⟩
        intro h hh
        rw [List.mem_append, List.mem_singleton] at hh
        rcases hh with hh | rfl
        · exact Hok2.out h hh
        · exact hr
      case measure => simp [intOf]; omega
    · have hke : k = ds.length := by omega
      subst hke
      have HX := hid (HdsAt.of_owns Hown2.out Hok2.out)
      have Hs2 := hid (Hs.out.at_.below hb)
      have HB2 := hid (HB.out.later hb)
      have Hb2 := hid (bth Hb1.out hb)
      have C1 := hid (fun (h : SgsAt wr (.slice xa ds.length xcap) ds) => rgput_any _ ds wr h (by omega))
      have C2 := hid (fun w0 (h : HdsAt w0 (.slice oa L.length ocap) L) => rgputk_any _ L w0 h (by omega))
      have hS1 : ((putGL ds).getD []).length ≤ 100000 := by
        cases hp : putGL ds with
        | none => simp
        | some t => exact (putG_len Hs.out.at_.ok hp).2.1
      have hS2 : ((putKL L).getD []).length ≤ 100000 := by
        cases hp : putKL L with
        | none => simp
        | some t => exact (putK_len Hok2.out hp).2.1
      rw [show putR (putGL ds) = .tuple #[sv ((putGL ds).getD []), .int .i64 (if (putGL ds).isSome then 0 else 2)] by cases putGL ds <;> rfl] at C1
      rw [show putR (putKL L) = .tuple #[sv ((putKL L).getD []), .int .i64 (if (putKL L).isSome then 0 else 2)] by cases putKL L <;> rfl] at C2
      generalize (putGL ds).getD [] = S1 at *
      generalize (putKL L).getD [] = S2 at *
      generalize (if (putGL ds).isSome then (0 : Int) else 2) = E1 at *
      generalize (if (putKL L).isSome then (0 : Int) else 2) = E2 at *
      clear hb
      go_upto_region 11 with (first
        | (go_at_call 15; refine (C1.out Hs2.out).mono ?_; rintro e w2 ⟨rfl, hb2⟩)
        | (go_at_call 17; refine (C2.out _ (HX.out.below hb2)).mono ?_; rintro e w3 ⟨rfl, hb3⟩))
      have HB3 := hid (HB2.out.later (bth hb2 hb3))
      have Hb3 := hid (bth Hb2.out (bth hb2 hb3))
      have T1 := hid (fun q' : Later w3 => turned_any S1 p q r (lat q') (by unfold maxLen; omega) HP.out HQ.out HR.out)
      have T2 := hid (fun q' : Later w3 => turned_any S2 p q r (lat q') (by unfold maxLen; omega) HP.out HQ.out HR.out)
      have e1 : (p : Int).tmod ((S1.length : Int) + 1) = ((p % (S1.length + 1) : Nat) : Int) := by rw [Int.tmod_eq_emod_of_nonneg (by omega)]; rfl
      have e2 : (p : Int).tmod ((S2.length : Int) + 1) = ((p % (S2.length + 1) : Nat) : Int) := by rw [Int.tmod_eq_emod_of_nonneg (by omega)]; rfl
      have hm1 : p % (S1.length + 1) ≤ S1.length := by have := Nat.mod_lt p (show 0 < S1.length + 1 by omega); omega
      have hm2 : p % (S2.length + 1) ≤ S2.length := by have := Nat.mod_lt p (show 0 < S2.length + 1 by omega); omega
      have Hlen := hid (gtexts_len (m1 := p % (S1.length + 1)) (m2 := p % (S2.length + 1)) (p := p) (q := q) (r := r) h80' hS1 hS2)
      unfold gtexts at Hlen
      generalize p % (S1.length + 1) = m1 at *
      generalize p % (S2.length + 1) = m2 at *
      generalize turnL S1 p q r = U1 at *
      generalize turnL S2 p q r = U2 at *
      unfold aV at T1 T2
      have hp0 := HP.out
      have hwp : wrap64 (p : Int) = (p : Int) := by unfold wrap64; omega
      have hm1I : (m1 : Int) ≤ (S1.length : Int) := by omega
      have hm2I : (m2 : Int) ≤ (S2.length : Int) := by omega
      clear hb2 hb3
      refine wp_region_later_tail 33 (by kernel_rfl) (by kernel_rfl) ?_
      simp only [List.take_succ_cons, List.take_zero, List.drop_succ_cons, List.drop_zero]
      repeat (first
        | (refine wpQuiet_load_aggG rfl 58 _ rfl ⟨W.heap.size, 0, none⟩ rfl #[.int .u16 (p : Int), .int .u16 (q : Int), .int .u16 (r : Int)] _ (by rintro _ ⟨q', rfl⟩; exact (HB3.out.later (lat_below q')).cells) Try.underlying58 rfl Try.sizeU3 ?_; simp only [Act.put, List.setIfInBounds_toArray, List.set_cons_succ, List.set_cons_zero])
        | (refine wpQuiet_load_one rfl 57 _ rfl ⟨W.heap.size, 0, none⟩ rfl (.int .u16 (p : Int)) _ (by rintro _ ⟨q, rfl⟩; exact (Blk.cell (HB3.out.later (lat_below q)) 0)) Try.underlying57 rfl ?_; simp only [Act.put, List.setIfInBounds_toArray, List.set_cons_succ, List.set_cons_zero])
        | go_big_quiet_step ((first | (go_at_call 30; with_reducible exact calls_later (T1.out _)) | (go_at_call 30; with_reducible exact calls_later (T2.out _)))))
      refine wpQuiet_nil ?_
      rintro _ ⟨q4, rfl⟩
      have hb4 := lat_below q4
      generalize lat q4 = w4 at *
      obtain ⟨Ls, hLs⟩ : ∃ Ls, Ls = [s, S1, S2, S1 ++ s, S2 ++ s, S1.take m1, S2.take m2, U1, U2] := ⟨_, rfl⟩
      rw [← hLs] at Hlen
      have hBl : Blk (w4.alloc (.cells #[sv s, sv S1, sv S2, sv (S1 ++ s), sv (S2 ++ s), sv (S1.take m1), sv (S2.take m2), sv U1, sv U2] 9)) w4.heap.size (Ls.map sv).toArray 9 := by rw [hLs]; exact Blk.new _ _ _
      have hWb := (bth Hb3.out hb4).alloc (bth Hb3.out hb4).size (.cells #[sv s, sv S1, sv S2, sv (S1 ++ s), sv (S2 ++ s), sv (S1.take m1), sv (S2.take m2), sv U1, sv U2] 9)
      have hL9 : Ls.length = 9 := by rw [hLs]; rfl
      clear hLs
      go_upto_region 13 with (refine wpList_buildSliceR rfl 49 _ _ rfl (.slice (some ⟨w4.heap.size, 0, none⟩) 9 9) (w4.alloc (.cells #[sv s, sv S1, sv S2, sv (S1 ++ s), sv (S2 ++ s), sv (S1.take m1), sv (S2.take m2), sv U1, sv U2] 9)) (by kernel_rfl) ?_)
      refine wp_world (fun w5 => Blk w5 w4.heap.size (Ls.map sv).toArray 9 ∧ Below W.heap.size W w5) ⟨hBl, hWb⟩ ?_
      rintro w5 ⟨hBl, hWb⟩
      have HBl := hid hBl; have HWb := hid hWb
      clear hb4 hBl hWb
      go_loopw [16] (fun i wr => ∃ k : Nat, k ≤ 9 ∧ i = .int .i64 k ∧ Below w5.heap.size w5 wr) (fun i _ => 9 - (intOf i).toNat)
      case atStart => exact ⟨0, by omega, rfl, Below.refl _ _⟩
      case round =>
        obtain ⟨k, hk, rfl, hb⟩ := hrel
        by_cases hlt : k < 9
        · have hc : wr.cell? ⟨w4.heap.size, k, none⟩ = some (sv (Ls[k]'(by omega))) := by
            have h1 := Blk.cell (HBl.out.later hb) k
            rw [h1]
            have hkl : k < Ls.length := by omega
            simp [hkl]
          have hTl := Hlen.out _ (List.getElem_mem (by omega : k < Ls.length))
          generalize Ls[k]'(by omega) = T at *
          have hkI : (k : Int) < 9 := by omega
          have G1 := hid (fun w0 => (gget_any T w0 (by omega)).mono fun _ _ h => h.uni)
          have G2 := hid (fun w0 => (rgget_any T w0 (by omega)).mono fun _ _ h => h.uni)
          have G3 := hid (fun w0 => (gkn_any T w0 (by omega)).mono fun _ _ h => h.uni)
          have G4 := hid (fun w0 => (rgkn_any T w0 (by omega)).mono fun _ _ h => h.uni)
          have hKS := gO_len T
          have hHS : ((getKL T).getD []).length ≤ 64 := by
            cases hg : getKL T with
            | none => simp
            | some hs => exact (getKL_back T hs hg).2.2
          generalize okEg (getGL T) = E3 at *
          generalize (getGL T).getD [] = KS at *
          generalize okEg (getKL T) = F3 at *
          generalize (getKL T).getD [] = HS at *
          have i1 : (E3 != E3) = false := by simp
          have i2 : (F3 != F3) = false := by simp
          go_wp2_with (first
            | (go_at_call 31; refine (G1.out _).mono ?_; rintro e w6 ⟨v6, d6, rfl, hat6, hk6, hb6⟩; have H6 := hid hat6; have K6 := hid hk6; have hc6 := (hb6.cell (p := ⟨w4.heap.size, k, none⟩) (World.block_lt_of_cell? _ _ hc)).trans hc; clear hat6 hk6)
            | (go_at_call 32; refine (G2.out _).mono ?_; rintro e w7 ⟨v7, d7, rfl, hat7, hk7, hb7⟩; have H7 := hid hat7; have K7 := hid hk7; have hc7 := (hb7.cell (p := ⟨w4.heap.size, k, none⟩) (World.block_lt_of_cell? _ _ hc6)).trans hc6; clear hat7 hk7)
            | (go_at_call 33; refine (G3.out _).mono ?_; rintro e w8 ⟨v8, rfl, hat8, hb8⟩; have H8 := hid hat8; have hc8 := (hb8.cell (p := ⟨w4.heap.size, k, none⟩) (World.block_lt_of_cell? _ _ hc7)).trans hc7; clear hat8)
            | (go_at_call 34; refine (G4.out _).mono ?_; rintro e w9 ⟨v9, rfl, hat9, hb9⟩; have H9 := hid hat9; clear hat9)
            | (go_at_call 18; refine (same30_any v6 v7 d6 d7 _ (((H6.out.below hb7).below hb8).below hb9) ((H7.out.below hb8).below hb9) (by have := congrArg List.length K6.out; simp only [List.length_map] at this; omega) (by have := congrArg List.length K7.out; simp only [List.length_map] at this; omega)).mono ?_; rw [K6.out, K7.out, decide_eq_true rfl]; rintro e w10 ⟨rfl, hb10⟩)
            | (go_at_call 35; refine (heads30_any v8 v9 HS HS _ ((H8.out.below hb9).below hb10) (H9.out.below hb10) (by omega) (by omega)).mono ?_; rw [decide_eq_true rfl]; rintro e w11 ⟨rfl, hb11⟩))
          go_roundw
          case rel => exact ⟨k + 1, by omega, by go_num, bth hb (bth (bth (bth (bth (bth hb6 hb7) hb8) hb9) hb10) hb11)⟩
          case measure => simp [intOf]; omega
        · have hke : k = 9 := by omega
          subst hke
          go_wp2_with (go_at_call 13; refine (talked_any _).mono ?_; rintro e w9 ⟨rfl, hb9⟩)
          go_ret
          exact ⟨rfl, bth (bth HWb.out hb) hb9⟩
end Go.Proofs.Ytjpnlnbpaecciaa
