/- the document's Missing -/
import Derived.Test.YtjpnlnbpaecciaaQMissing

set_option maxRecDepth 100000
namespace Go.Spec
open Go.RowKit
theorem hd_sg {z i : Int} {root sig : List UInt8} {p : Value} {j : Nat} {u : Value} (h : (hdA z root).toList[j]? = some u) : (sgA z root i sig p).toList[j]? = some u := by
  have hj := (List.getElem?_eq_some_iff.1 h).1
  simp only [hdA, sgA] at *
  rw [← List.cons_append, List.getElem?_append_left hj]
  exact h
end Go.Spec
namespace Go.Proofs.Ytjpnlnbpaecciaa
open Go.RowKit Go.Spec
def lackB (d : Sg) (ks : List Hd) : Bool := d.valid && !decide ((d.z, d.root) ∈ ks.map Hd.k)
theorem lackB_snoc (d : Sg) (ks : List Hd) (h : Hd) : lackB d (ks ++ [h]) = (lackB d ks && !(decide (h.z = d.z) && h.r == d.root)) := by
  unfold lackB
  have : decide ((d.z, d.root) ∈ (ks ++ [h]).map Hd.k) = (decide ((d.z, d.root) ∈ ks.map Hd.k) || (decide (h.z = d.z) && h.r == d.root)) := by
    rw [Bool.eq_iff_iff]
    simp only [List.map_append, List.mem_append, List.map_cons, List.map_nil, List.mem_singleton, Hd.k, Prod.mk.injEq, decide_eq_true_eq, Bool.or_eq_true, Bool.and_eq_true, beq_iff_eq]
    constructor
    · rintro (h | ⟨h1, h2⟩)
      · exact .inl h
      · exact .inr ⟨h1.symm, h2.symm⟩
    · rintro (h | ⟨h1, h2⟩)
      · exact .inl h
      · exact .inr ⟨h1.symm, h2.symm⟩
  rw [this, Bool.not_or, Bool.and_assoc]
theorem missL_full (ds : List Sg) (ks : List Hd) (k : Nat) (h : 3 ≤ (missL (ds.take k) ks).length) : missL ds ks = missL (ds.take k) ks := by
  unfold missL at *
  conv => lhs; rw [← List.take_append_drop k ds, List.filter_append]
  rw [List.length_take] at h
  rw [List.take_append_of_le_length (by omega)]
set_option maxHeartbeats 4000000 in
theorem rmissing_any (v u : Value) (ds : List Sg) (ks : List Hd) (w : World) (hv : SgsAt w v ds) (hu : HdsAt w u ks) (hn : ds.length ≤ 1000000) (hn2 : ks.length ≤ 1000000) :
    Calls Try.prog 20 #[v, u] w fun e w' => MA ds ks e w w' := by
  obtain ⟨i0, hi, hz0, hz1, hz2⟩ := info_parts Try.infoSigned
  obtain ⟨a, cap, rfl, hcap⟩ := hv.form
  obtain ⟨ua, ucap, rfl, hucap⟩ := hu.form
  have Hv := hid hv; have Hu := hid hu
  have hgd := Try.guardHead
  clear hv hu
  go_enter Try.func20, Try.ntmps20
  go_upto_region 3 with fail
  go_loopw [5, 6] (fun o i wr => ∃ (k : Nat), i = .int .i64 k ∧ k ≤ ds.length ∧ (missL (ds.take k) ks).length ≤ 3 ∧ wr.ownsRow w.heap.size 41 36 o (missL (ds.take k) ks).length (sgF (missL (ds.take k) ks)) ∧ Below w.heap.size w wr)
    (fun _ i _ => ds.length - (intOf i).toNat)
  case atStart => exact ⟨0, rfl, by omega, by simp [missL], by simpa [missL, sgF] using World.ownsRow_nil _ _ _ _, Below.refl _ _⟩
  case round =>
    obtain ⟨k, rfl, hk, hol, hown, hb⟩ := hrel
    obtain ⟨oa, ocap, rfl, hoc⟩ := ownsRow_form hown
    have Hown := hid hown; clear hown
    have Hokm := hid (show ∀ (l : List Sg), (∀ d ∈ l, d ∈ ds) → ∀ d ∈ missL l ks, d.In w from fun l hl d hd => Hv.out.ok d (hl d (List.mem_filter.1 (List.mem_of_mem_take hd)).1))
    by_cases hlt : k < ds.length
    · have htk := hid (show ds.take (k + 1) = ds.take k ++ [ds[k]] from List.take_succ_eq_append_getElem hlt)
      have Hms := hid (missL_snoc (ds.take k) ks ds[k])
      have hdk := Hv.out.ok ds[k] (List.getElem_mem hlt)
      have Hget := hid (fun wx (hx : Below w.heap.size w wx) => (Hv.out.below hx).get hlt)
      generalize hout : missL (ds.take k) ks = out at *
      have Hout := hid hout; clear hout
      have hk64 : (k : Int) < (ds.length : Int) := by omega
      by_cases h3 : out.length < 3
      · have d3 : decide ((out.length : Int) < 3) = true := decide_eq_true (by omega)
        generalize ds[k] = d at *
        have hr := hdk.r32
        have Hin := hid hdk
        have Hsz := hid (show (Try.prog.info? 41).map (·.size) = some (sgA d.z d.root d.i d.sig d.p).size by rw [sgA_size hr]; exact Try.sizeSigned)
        have Hszh := hid (show (Try.prog.info? 36).map (·.size) = some (hdA d.z d.root).size by rw [hdA_size hr]; exact Try.sizeHead)
        have V := hid (fun w0 => rvalid_any d.z d.i d.root d.sig d.a d.path.length d.cap w0 hr)
        obtain ⟨b, o, rfl, hbl, hcell⟩ := Hget.out wr hb
        have Hc := hid hcell; clear hcell hdk
        go_upto_region 7 with (first
          | ((with_reducible show wpList _ _ _ ({ dst := _, op := Op.load 41 _, type := _, pos := _, after := _, guard := none } :: _) _ _); refine wpList_load_cs rfl 41 _ rfl ⟨b, o + k * 36, none⟩ rfl _ _ Hc.out Try.underlying41 rfl Hsz.out ?_)
          | (go_at_call 57; refine (V.out _).mono ?_; rintro e w4 ⟨rfl, hb4⟩))
        have HB4 := hid (bth hb hb4)
        have Hv4 := hid (fun (wx : World) (hx : Below w4.heap.size w4 wx) => Hget.out wx (bth (bth hb hb4) hx))
        have Hu4 := hid (Hu.out.below (bth hb hb4))
        have HD0 := hid (show validB d.z d.i d.sig d.path.length = lackB d (ks.take 0) by simp [lackB, Sg.valid])
        have Hown4 := hid (ownsRow_fr Hown.out (Fr.of_below hb4 (fun _ => False)) (fun _ _ h => h))
        clear Hc V hb4 Hown
        rw [HD0.out]
        go_loopw [7, 8] (fun l j wx => ∃ (m : Nat), m ≤ ks.length ∧ j = .int .i64 m ∧ l = .bool (lackB d (ks.take m)) ∧ Below w4.heap.size w4 wx)
          (fun _ j _ => ks.length - (intOf j).toNat)
        case atStart => exact ⟨0, by omega, rfl, rfl, Below.refl _ _⟩
        case round =>
          obtain ⟨m, hm, rfl, rfl, hbx⟩ := hrel
          by_cases hlt2 : m < ks.length
          · have hm64 : (m : Int) < (ks.length : Int) := by omega
            have Hv2 := Hu4.out.below hbx
            have hy1 := Hv2.ok _ (List.getElem_mem hlt2)
            obtain ⟨b2, o2, rfl, hbl2, hcell2⟩ := Hv2.get hlt2
            have htb := hid (show ks.take (m + 1) = ks.take m ++ [ks[m]] from List.take_succ_eq_append_getElem hlt2)
            have Hls := hid (lackB_snoc d (ks.take m) ks[m])
            generalize ks[m] = y at *
            obtain ⟨z', r'⟩ := y
            simp only at hy1 hcell2
            have Hsy := hid (show (Try.prog.info? 36).map (·.size) = some (hdA z' r').size by rw [hdA_size hy1]; exact Try.sizeHead)
            have Hc2 := hid hcell2
            obtain ⟨b3, o3, hb3, hbl3, hcell3⟩ := Hv4.out _ hbx
            injection hb3 with hb3
            injection hb3 with hb3 hb4
            subst hb3; subst hb4
            have Hc3 := hid (fun j u (h : (hdA d.z d.root).toList[j]? = some u) => hcell3 j u (hd_sg h))
            clear hcell2 hcell3 Hv2
            have Hlk := hid (rfl : lackB d (ks.take m) = lackB d (ks.take m))
            clear Hlk
            cases hlk : lackB d (ks.take m) with
            | false =>
              have Hlk := hid hlk; clear hlk
              go_upto_region 9 with fail
              refine wp_region_later (by kernel_rfl) (by kernel_rfl) ?_
              repeat (first
                | go_big_quiet_skip
                | (refine wpQuiet_load_aggG rfl 36 _ rfl ⟨b2, o2 + m * 33, none⟩ rfl (hdA z' r') _ (by rintro _ ⟨q, rfl⟩; exact lat_cells q hbl2 Hc2.out) Try.underlying36 rfl Hsy.out ?_; simp only [Act.put, List.setIfInBounds_toArray, List.set_cons_succ, List.set_cons_zero])
                | (refine wpQuiet_load_aggG rfl 36 _ rfl ⟨b, o + k * 36, none⟩ rfl (hdA d.z d.root) _ (by rintro _ ⟨q, rfl⟩; exact lat_cells q hbl3 Hc3.out) Try.underlying36 rfl Hszh.out ?_; simp only [Act.put, List.setIfInBounds_toArray, List.set_cons_succ, List.set_cons_zero])
                | go_big_quiet_step (fail))
              refine wpQuiet_nil ?_
              rintro _ ⟨q6, rfl⟩
              have hb6 := lat_below q6
              generalize lat q6 = w6 at *
              go_wp2
              go_roundw
              case rel => exact ⟨m + 1, by omega, by go_num, by rw [htb.out, Hls.out, Hlk.out]; rfl, bth hbx hb6⟩
              case measure => simp [intOf]; omega
            | true =>
              have Hlk := hid hlk; clear hlk
              by_cases hxy : z' = d.z ∧ r' = d.root
              · have hE : ∀ w, (Op.equalIn 10000 36 (.agg (hdA z' r')) (.agg (hdA d.z d.root))).run Try.prog w = .ok true w := fun w => by rw [equalHead z' d.z r' d.root hy1 hr w, hxy.1, hxy.2]; simp
                have Hxy := hid (show (decide (z' = d.z) && r' == d.root) = true by simp [hxy])
                clear hxy
                go_upto_region 9 with fail
                refine wp_region_later (by kernel_rfl) (by kernel_rfl) ?_
                repeat (first
                  | go_big_quiet_skip
                  | (refine wpQuiet_load_aggG rfl 36 _ rfl ⟨b2, o2 + m * 33, none⟩ rfl (hdA z' r') _ (by rintro _ ⟨q, rfl⟩; exact lat_cells q hbl2 Hc2.out) Try.underlying36 rfl Hsy.out ?_; simp only [Act.put, List.setIfInBounds_toArray, List.set_cons_succ, List.set_cons_zero])
                  | (refine wpQuiet_load_aggG rfl 36 _ rfl ⟨b, o + k * 36, none⟩ rfl (hdA d.z d.root) _ (by rintro _ ⟨q, rfl⟩; exact lat_cells q hbl3 Hc3.out) Try.underlying36 rfl Hszh.out ?_; simp only [Act.put, List.setIfInBounds_toArray, List.set_cons_succ, List.set_cons_zero])
                  | go_big_quiet_step (fail))
                refine wpQuiet_nil ?_
                rintro _ ⟨q6, rfl⟩
                have hb6 := lat_below q6
                generalize lat q6 = w6 at *
                go_wp2
                go_roundw
                case rel => exact ⟨m + 1, by omega, by go_num, by rw [htb.out, Hls.out, Hlk.out]; simp only [Hxy.out]; rfl, bth hbx hb6⟩
                case measure => simp [intOf]; omega
              · have hxyB : (decide (z' = d.z) && r' == d.root) = false := by
                  rw [Bool.eq_false_iff]; simp; exact fun h1 h2 => hxy ⟨h1, h2⟩
                have hE : ∀ w, (Op.equalIn 10000 36 (.agg (hdA z' r')) (.agg (hdA d.z d.root))).run Try.prog w = .ok false w := fun w => by rw [equalHead z' d.z r' d.root hy1 hr w, hxyB]
                have Hxy := hid hxyB
                clear hxy hxyB
                go_upto_region 9 with fail
                refine wp_region_later (by kernel_rfl) (by kernel_rfl) ?_
                repeat (first
                  | go_big_quiet_skip
                  | (refine wpQuiet_load_aggG rfl 36 _ rfl ⟨b2, o2 + m * 33, none⟩ rfl (hdA z' r') _ (by rintro _ ⟨q, rfl⟩; exact lat_cells q hbl2 Hc2.out) Try.underlying36 rfl Hsy.out ?_; simp only [Act.put, List.setIfInBounds_toArray, List.set_cons_succ, List.set_cons_zero])
                  | (refine wpQuiet_load_aggG rfl 36 _ rfl ⟨b, o + k * 36, none⟩ rfl (hdA d.z d.root) _ (by rintro _ ⟨q, rfl⟩; exact lat_cells q hbl3 Hc3.out) Try.underlying36 rfl Hszh.out ?_; simp only [Act.put, List.setIfInBounds_toArray, List.set_cons_succ, List.set_cons_zero])
                  | go_big_quiet_step (fail))
                refine wpQuiet_nil ?_
                rintro _ ⟨q6, rfl⟩
                have hb6 := lat_below q6
                generalize lat q6 = w6 at *
                go_wp2
                go_roundw
                case rel => exact ⟨m + 1, by omega, by go_num, by rw [htb.out, Hls.out, Hlk.out]; simp only [Hxy.out]; rfl, bth hbx hb6⟩
                case measure => simp [intOf]; omega
          · have hke : m = ks.length := by omega
            subst hke
            have Hl : ks.take ks.length = ks := List.take_length
            rw [Hl]
            have HW6 := hid (bth HB4.out hbx)
            cases hlk : lackB d ks with
            | false =>
              have Hw := hid (show wantB ks d = false from hlk)
              go_wp2
              go_roundw
              case rel =>
                refine ⟨k + 1, by go_num, by omega, ?_, ?_, HW6.out⟩
                · rw [htk.out, Hms.out, if_neg (by rw [Hw.out]; simp)]; exact hol
                · rw [htk.out, Hms.out, if_neg (by rw [Hw.out]; simp)]; exact ownsRow_fr Hown4.out (Fr.of_below hbx (fun _ => False)) (fun _ _ h => h)
              case measure => simp [intOf]; omega
            | true =>
              have Hw := hid (show wantB ks d = true from hlk)
              obtain ⟨b3, o3, hb3, hbl3, hcell3⟩ := Hv4.out _ hbx
              injection hb3 with hb3
              injection hb3 with hb3 hb4
              subst hb3; subst hb4
              have Hc3 := hid hcell3
              have Hown6 := hid (ownsRow_fr Hown4.out (Fr.of_below hbx (fun _ => False)) (fun _ _ h => h))
              have hwx : w.heap.size ≤ wr.heap.size := HW6.out.size
              clear hcell3
              go_wp2_with (first
                | ((with_reducible show wpList _ _ _ ({ dst := _, op := Op.load 41 _, type := _, pos := _, after := _, guard := none } :: _) _ _); refine wpList_load_cs rfl 41 _ rfl ⟨b, o + k * 36, none⟩ rfl _ _ Hc3.out Try.underlying41 rfl Hsz.out ?_)
                | (refine wpList_buildSlice_one rfl 24 41 _ rfl 36 (.agg (sgA 0 zero32 0 [] (.slice none 0 0))) (.agg (sgA d.z d.root d.i d.sig d.p)) (sgA d.z d.root d.i d.sig d.p) rfl Try.underlying24 Try.infoSigned2 rfl (sgA_size hr) (by decide) (by decide) ?_)
                | (at_builtin; go_must (refine wpList_app rfl _ _ 24 rfl w.heap.size 41 i0 (.agg (sgA 0 zero32 0 [] (.slice none 0 0))) 36 88 Try.underlying24 hi hz0 hz1 hz2 rfl (by decide) _ out.length (sgF out) rfl ?c1 ⟨wr.heap.size, 0, none⟩ 1 1 (sgA d.z d.root d.i d.sig d.p).toList rfl ?c2 ?c3 ?c4 ?c5 ?c6 ?c7 ?_)))
              case c1 => exact Hown6.out.alloc _
              case c4 => exact fun u hu => sgA_one rfl u (by simpa using hu)
              case c5 => unfold maxLen; omega
              case c6 => omega
              case c7 => omega
              intro v' w8 hown' hgrow hat
              have HB8 := hid ((HW6.out.alloc hwx _).grown hgrow (by simp; omega) (fun q hq => (Hown6.out.lt q hq).1))
              have HownN := hid (show w8.ownsRow w.heap.size 41 36 v' (out.length + 1) (sgF (out ++ [d])) by rw [sgF_snoc]; exact hown')
              clear hown' hgrow hat
              go_wp2
              go_roundw
              case rel =>
                refine ⟨k + 1, by go_num, by omega, ?_, ?_, HB8.out⟩
                · rw [htk.out, Hms.out, if_pos ⟨h3, Hw.out⟩, List.length_append]; simp; omega
                · rw [htk.out, Hms.out, if_pos ⟨h3, Hw.out⟩, List.length_append]; exact HownN.out
              case measure => simp [intOf]; omega
      · have d3 : decide ((out.length : Int) < 3) = false := decide_eq_false (by omega)
        have HX := hid (SgsAt.of_owns Hown.out (fun d hd => ((Hokm.out (ds.take k) (fun x hx => List.mem_of_mem_take hx) d (by rw [Hout.out]; exact hd)).below hb)))
        go_wp2
        go_ret
        exact ⟨⟨_, out, rfl, HX.out, by rw [missL_full ds ks k (by rw [Hout.out]; omega), Hout.out]⟩, hb⟩
    · have hke : k = ds.length := by omega
      subst hke
      have Hl : ds.take ds.length = ds := List.take_length
      have HX := hid (SgsAt.of_owns Hown.out (fun d hd => ((Hokm.out (ds.take ds.length) (fun x hx => List.mem_of_mem_take hx) d hd).below hb)))
      have Hl := hid Hl
      go_wp2
      go_ret
      exact ⟨⟨_, _, rfl, HX.out, by rw [Hl.out]⟩, hb⟩
end Go.Proofs.Ytjpnlnbpaecciaa
