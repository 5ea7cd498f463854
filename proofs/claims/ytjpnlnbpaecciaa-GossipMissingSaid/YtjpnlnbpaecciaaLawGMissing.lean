/- GossipMissing -/
import Derived.Test.YtjpnlnbpaecciaaTalked
import Derived.Test.YtjpnlnbpaecciaaSigned
import Derived.Test.YtjpnlnbpaecciaaSame30
set_option maxRecDepth 100000
namespace Go.Spec
open Go.RowKit
variable {P : Program} {w : World}
/-- append(T(nil), l...): a row of the call's own with the same elements -/
theorem wpList_cloneS {ops : Array Oper} {rest : List Oper} {o : Oper} {a : Act} {Q : Exit → Act → World → Prop} (hgd : o.guard = none) (s x : Operand) (t : TypeId)
    (ho : o.op = .call { callee := .builtin .append, args := #[s, x], argTypes := #[t, t] })
    (e : TypeId) (i : TypeInfo) (z : Value) (size bytes : Nat) (ht : P.underlying t = some (.slice e)) (hi : P.info? e = some i) (hz : i.zero = some z) (hsize : i.size = size) (hby : i.bytes = bytes) (hzs : z.cells.size = size) (hsz : 0 < size)
    (hs : a.eval s = .slice none 0 0) (ua : Option Addr) (n uc : Nat) (hx : a.eval x = .slice ua n uc) (css : List (List Value)) (hn : css.length = n) (hat : SlAt w size (.slice ua n uc) css) (hone : ∀ u ∈ css.flatten, u.oneCell' = true) (hl : n ≤ maxLen) (hb : n * bytes ≤ 140737488355328)
    (h : ∀ v' w', w'.ownsRow w.heap.size e size v' n css.flatten → Below w.heap.size w w' → wpList P ops Q rest (a.put o.dst v') w') : wpList P ops Q (o :: rest) a w := by
  have hfl : css.flatten.length = n * size := by rw [flatten_lenG hat.sizes, hn]
  by_cases h0 : 0 < n
  · obtain ⟨ad, rfl⟩ : ∃ ad, ua = some ad := by
      obtain ⟨b, o, ha, _⟩ := hat.at (i := 0) (cs := css[0]) (List.getElem?_eq_getElem (by omega))
      exact ⟨_, ha⟩
    refine wpList_app hgd s x t ho w.heap.size e i z size bytes ht hi hz hsize hby hzs hsz (.slice none 0 0) 0 [] hs (World.ownsRow_nil _ _ _ _) ad n uc css.flatten hx hfl hat.flat hone (by omega) (by rw [Nat.zero_add]; exact hb) (Nat.le_refl _) ?_
    intro v' w' h1 h2 h3
    rw [Nat.zero_add, List.nil_append] at h1
    exact h v' w' h1 ((Below.refl _ w).grown h2 (Nat.le_refl _) (fun q hq => by simp [Value.ownBlock] at hq))
  · obtain rfl : n = 0 := by omega
    have hp : css = [] := List.eq_nil_of_length_eq_zero hn
    subst hp
    refine wpList_plain hgd fun _ hK => ?_
    have hr : (Builtin.append_ #[t, t] o.type #[.slice none 0 0, .slice ua 0 uc]).run P w = .ok (.slice none 0 0) w := by
      cases ua <;> simp [Builtin.append_, run_underlying ht, sizeOf, typeInfo, hi, Builtin.lenOf, Builtin.firstCells, loadCells, loadCellsFrom]
    unfold Oper.wp execOp
    simp only [ho, resolve, invoke, builtin, Sem.run_bind, Sem.run_pure, Result.andThen_ok, List.map_toArray, List.map_cons, List.map_nil, hs, hx, hr]
    exact hK _ _ (h _ _ (World.ownsRow_nil _ _ _ _) (Below.refl _ _))
end Go.Spec
namespace Go.Proofs.Ytjpnlnbpaecciaa
open Go.RowKit Go.Spec
set_option maxHeartbeats 4000000 in
theorem gossipMissing_law (v : Value) (rs : List Rg) (u : Value) (hs : List Hd) (n : Nat) (W : World) (hv : RgsAt W v rs) (hl : rs.length ≤ 9223372036854775807) (hu : HdsAt W u hs) (hul : hs.length ≤ 9223372036854775807) (hn8 : n < 256) :
    Calls Try.prog 4 #[v, u, .int .u8 n] W fun e w' => e = .returned (.bool true) ∧ Below W.heap.size W w' := by
  obtain ⟨i0, hi, hz0, hz1, hz2⟩ := info_parts Try.infoHead
  have CS := hid (fun w0 (h : RgsAt w0 v rs) => signed_any v rs 8 w0 h hl (by decide))
  have Hv := hid hv; have Hu := hid hu
  obtain ⟨ua, ucap, rfl, _⟩ := hu.form
  clear hv hu
  cases hok : signedOk rs 8 with
  | false =>
    have Hok := hid hok; clear hok
    go_enter Try.func4, Try.ntmps4
    go_wp2_with (first
      | (go_at_call 12; refine (CS.out _ Hv.out).mono ?_; rintro e w1 ⟨hno, hyes, hb1⟩; obtain rfl := hno Hok.out; clear hno hyes)
      | (go_at_call 13; refine (talked_any _).mono ?_; rintro e w2 ⟨rfl, hb2⟩))
    go_ret
    exact ⟨rfl, bth hb1 hb2⟩
  | true =>
  have Hok := hid hok; clear hok
  by_cases h80 : 20 < hs.length
  · have d8 : decide ((20 : Int) < (hs.length : Int)) = true := decide_eq_true (by omega)
    clear h80
    go_enter Try.func4, Try.ntmps4
    go_wp2_with (first
      | (go_at_call 12; refine (CS.out _ Hv.out).mono ?_; rintro e w1 ⟨hno, hyes, hb1⟩; obtain ⟨x, ds, rfl, hs1⟩ := hyes Hok.out; clear hno hyes hs1)
      | (go_at_call 13; refine (talked_any _).mono ?_; rintro e w2 ⟨rfl, hb2⟩))
    go_ret
    exact ⟨rfl, bth hb1 hb2⟩
  have d8 : decide ((20 : Int) < (hs.length : Int)) = false := decide_eq_false (by omega)
  have h80' : hs.length ≤ 20 := by omega
  clear h80
  have hone : ∀ y ∈ (hs.map Hd.L).flatten, y.oneCell' = true := by
    intro y hy
    simp only [List.mem_flatten, List.mem_map] at hy
    obtain ⟨l, ⟨h, _, rfl⟩, hy⟩ := hy
    exact hdA_one y hy
  have Hone := hid hone; clear hone
  go_enter Try.func4, Try.ntmps4
  go_upto_region 4 with (go_at_call 12; refine (CS.out _ Hv.out).mono ?_; rintro e w1 ⟨hno, hyes, hb1⟩; obtain ⟨x, ds, rfl, hs1⟩ := hyes Hok.out; clear hno hyes)
  have Hs := hid hs1; clear hs1
  have Hu1 := hid (Hu.out.below hb1)
  obtain ⟨xa, xcap, rfl, _⟩ := Hs.out.at_.form
  have hdl := Hs.out.le
  go_upto_region 6 with (at_builtin; go_must (refine wpList_cloneS rfl _ _ 23 rfl 36 i0 (.agg (hdA 0 zero32)) 33 40 Try.underlying23 hi hz0 hz1 hz2 rfl (by decide) rfl ua hs.length ucap rfl (hs.map Hd.L) (by rw [List.length_map]) Hu1.out.at_ Hone.out (by unfold maxLen; omega) (by omega) ?_))
  intro v' w2 hown' hb2
  have Hown := hid hown'; clear hown'
  go_upto_region 6 with fail
  go_loopw [9, 10] (fun o i wr => ∃ (k : Nat) (L : List Hd), i = .int .i64 k ∧ k ≤ ds.length ∧ L.length ≤ 20 + k ∧ wr.ownsRow w1.heap.size 36 33 o L.length (hdF L) ∧ (∀ h ∈ L, h.r.length = 32) ∧ Below w1.heap.size w1 wr)
    (fun _ i _ => ds.length - (intOf i).toNat)
  case atStart => exact ⟨0, hs, rfl, by omega, by omega, Hown.out, Hu1.out.ok, hb2⟩
  case round =>
    obtain ⟨k, L, rfl, hk, hLl, hown, hok, hb⟩ := hrel
    obtain ⟨oa, ocap, rfl, hoc⟩ := ownsRow_form hown
    have Hown2 := hid hown; have Hok2 := hid hok
    clear hown hok
    by_cases hlt : k < ds.length
    · have hk64 : (k : Int) < (ds.length : Int) := by omega
      have hr := (Hs.out.at_.ok ds[k] (List.getElem_mem hlt)).r32
      obtain ⟨b, o, rfl, hbl, hcell⟩ := (Hs.out.at_.below hb).get hlt
      generalize ds[k] = d at *
      have Hc := hid (fun j u (h : (hdA d.z d.root).toList[j]? = some u) => hcell j u (hd_sg h))
      have Hsz := hid (show (Try.prog.info? 36).map (·.size) = some (hdA d.z d.root).size by rw [hdA_size hr]; exact Try.sizeHead)
      have hk8 : k ≤ 7 := by omega
      clear hcell
      go_upto_region 9 with fail
      rotate_left
      · exact ⟨⟨k + 1, L, by simp, by omega, by omega, Hown2.out, Hok2.out, hb⟩, by simp [intOf]; omega⟩
      have hwsz : w1.heap.size ≤ wr.heap.size := hb.size
      go_wp2_with (first
        | ((with_reducible show wpList _ _ _ ({ dst := _, op := Op.load 36 _, type := _, pos := _, after := _, guard := none } :: _) _ _); refine wpList_load_cs rfl 36 _ rfl ⟨b, o + k * 36, none⟩ rfl (hdA d.z d.root) _ Hc.out Try.underlying36 rfl Hsz.out ?_)
        | (refine wpList_buildSlice_one rfl 23 36 _ rfl 33 (.agg (hdA 0 zero32)) (.agg (hdA d.z d.root)) (hdA d.z d.root) rfl Try.underlying23 Try.infoHead2 rfl (hdA_size hr) (by decide) (by decide) ?_)
        | (at_builtin; go_must (refine wpList_app rfl _ _ 23 rfl w1.heap.size 36 i0 (.agg (hdA 0 zero32)) 33 40 Try.underlying23 hi hz0 hz1 hz2 rfl (by decide) _ L.length (hdF L) rfl ?c1 ⟨wr.heap.size, 0, none⟩ 1 1 (hdA d.z d.root).toList rfl ?c2 ?c3 ?c4 ?c5 ?c6 ?c7 ?_)))
      case c1 => exact Hown2.out.alloc _
      case c2 => rw [Array.length_toList, hdA_size hr]
      case c3 => exact fun j u hj => row_alloc (w := wr) j u hj
      case c4 => exact hdA_one
      case c5 => unfold maxLen; omega
      case c6 => omega
      case c7 => simp; omega
      intro v9 w8 hown' hgrow hat
      have HB8 := hid ((hb.alloc hwsz _).grown hgrow (by simp; omega) (fun q hq => (Hown2.out.lt q hq).1))
      have HownN := hid (show w8.ownsRow w1.heap.size 36 33 v9 (L.length + 1) (hdF (L ++ [⟨d.z, d.root⟩])) by rw [hdF_snoc]; exact hown')
      clear hown' hgrow hat
      go_wp2
      go_roundw
      case rel =>
        refine ⟨k + 1, L ++ [⟨d.z, d.root⟩], by go_num, by omega, by rw [List.length_append]; simp; omega, by rw [List.length_append]; exact HownN.out, ?_, HB8.out⟩
        intro h hh
        rw [List.mem_append, List.mem_singleton] at hh
        rcases hh with hh | rfl
        · exact Hok2.out h hh
        · exact hr
      case measure => simp [intOf]; omega
    · have hke : k = ds.length := by omega
      subst hke
      have HX := hid (HdsAt.of_owns Hown2.out Hok2.out)
      have Hs2 := hid (Hs.out.at_.below hb)
      have M1 := hid (fun w0 (h : SgsAt w0 (.slice xa ds.length xcap) ds) (h2 : HdsAt w0 (.slice oa L.length ocap) L) => missing_any _ _ ds L w0 h h2 (by omega) (by omega) (fun d hd => by have := (Hs.out.small d hd).2; omega))
      have M2 := hid (fun w0 (h : SgsAt w0 (.slice xa ds.length xcap) ds) (h2 : HdsAt w0 (.slice oa L.length ocap) L) => rmissing_any _ _ ds L w0 h h2 (by omega) (by omega))
      go_wp2_with (first
        | (go_at_call 19; refine (M1.out _ Hs2.out HX.out).mono ?_; rintro e w5 ⟨⟨v5, o5, rfl, hat5, hmk5⟩, hb5⟩; have H5 := hid hat5; have K5 := hid hmk5; clear hat5 hmk5)
        | (go_at_call 20; refine (M2.out _ (Hs2.out.below hb5) (HX.out.below hb5)).mono ?_; rintro e w6 ⟨⟨v6, o6, rfl, hat6, hmk6⟩, hb6⟩; have H6 := hid hat6; have K6 := hid hmk6; clear hat6 hmk6)
        | (go_at_call 18; refine (same30_any _ _ o5 o6 _ (H5.out.below hb6) H6.out (by have := congrArg List.length K5.out; simp only [List.length_map] at this; rw [this]; unfold missL; rw [List.length_take]; omega) (by have := congrArg List.length K6.out; simp only [List.length_map] at this; rw [this]; unfold missL; rw [List.length_take]; omega)).mono ?_; rw [K5.out, K6.out, decide_eq_true rfl]; rintro e w7 ⟨rfl, hb7⟩)
        | (go_at_call 13; refine (talked_any _).mono ?_; rintro e w9 ⟨rfl, hb9⟩))
      go_ret
      exact ⟨rfl, bth (bth hb1 hb) (bth (bth (bth hb5 hb6) hb7) hb9)⟩
end Go.Proofs.Ytjpnlnbpaecciaa
