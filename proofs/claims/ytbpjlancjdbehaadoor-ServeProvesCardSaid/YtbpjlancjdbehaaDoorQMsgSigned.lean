/- heads' bytes in messages: the program's and the document's; entries' bytes -/
import Derived.Test.YtbpjlancjdbehaaDoorQAnyOp
import Derived.Test.YtbpjlancjdbehaaDoorQMsgNumbers
import Derived.Test.YtbpjlancjdbehaaDoorQSg

set_option maxRecDepth 100000
namespace Go.Proofs.YtbpjlancjdbehaaDoor
open Go.RowKit Go.Spec
/-- heads' bytes, and whether they may be -/
def headsV (ds : List Sg) (b : Bool) : Value := if ds.all Sg.valid then .tuple #[sv (ds.map sgT).flatten, .bool b] else .tuple #[sv [], .bool false]
theorem headsV_of {ds : List Sg} {b v : Bool} (h : ds.all Sg.valid = v) : headsV ds b = if v then .tuple #[sv (ds.map sgT).flatten, .bool b] else .tuple #[sv [], .bool false] := by unfold headsV; rw [h]
theorem sgsT_len {w : World} (ds : List Sg) (h : ∀ d ∈ ds, d.In w) (hv : ds.all Sg.valid = true) : ((ds.map sgT).flatten).length ≤ 17010 * ds.length := sgTs_len ds h hv
set_option maxHeartbeats 2000000 in
theorem signed17_any (v : Value) (ds : List Sg) (n : Nat) (w : World) (hv : SgsAt w v ds) (hn : ds.length ≤ 1000) (hn2 : n ≤ 1000) :
    Calls Tryd.prog 81 #[v, .int .i64 (n : Int)] w fun e w' => e = .returned (headsV ds (decide (ds.length = n))) ∧ Below w.heap.size w w' := by
  obtain ⟨a, cap, rfl, hcap⟩ := hv.form
  have Hv := hid hv; clear hv
  go_enter Tryd.func81, Tryd.ntmps81
  go_wp2_with fail
  go_loopw [6, 13] (fun s i wr => ∃ (k : Nat), i = .int .i64 k ∧ k ≤ ds.length ∧ (ds.take k).all Sg.valid = true ∧ s = sv ((ds.take k).map sgT).flatten ∧ Below w.heap.size w wr)
    (fun _ i _ => ds.length - (intOf i).toNat)
  case atStart => exact ⟨0, rfl, by omega, by simp, rfl, Below.refl _ _⟩
  case round =>
    obtain ⟨k, rfl, hk, hva, rfl, hb⟩ := hrel
    have Hva := hid hva; clear hva
    by_cases hlt : k < ds.length
    · have hdk := Hv.out.ok ds[k] (List.getElem_mem hlt)
      obtain ⟨b, o, rfl, hbl, hcell⟩ := (Hv.out.below hb).get hlt
      have hGl : (((ds.take k).map sgT).flatten).length ≤ 17010000 := by
        have h2 := sgTs_len (w := w) (ds.take k) (fun x hx => Hv.out.ok x (List.mem_of_mem_take hx)) Hva.out
        rw [List.length_take] at h2
        omega
      have Htk := hid (show ds.take (k + 1) = ds.take k ++ [ds[k]] from List.take_succ_eq_append_getElem hlt)
      have Hall := hid (show ds[k].valid = false → ds.all Sg.valid = false from fun h => by
        rw [Bool.eq_false_iff]
        intro h'
        have := List.all_eq_true.1 h' ds[k] (List.getElem_mem hlt)
        rw [h] at this; cases this)
      generalize hd : ds[k] = d at *
      clear hd
      have Hput := hid (fun w0 (h : d.In w0) => sput_any d w0 h)
      have Hin := hid (hdk.below hb)
      have hr := hdk.r32
      have Hl32 := hid hdk.at_.len32
      have Hsz := hid (show (Tryd.prog.info? 92).map (·.size) = some (sgA d.z d.root d.i d.sig d.p).size by rw [sgA_size hr]; exact Tryd.sizeSigned)
      have Hsz2 := hid (sgA_size (z := d.z) (i := d.i) (sig := d.sig) (p := d.p) hr)
      have Hc := hid hcell; clear hcell hdk
      have hk64 : (k : Int) < (ds.length : Int) := by omega
      generalize hG : ((ds.take k).map sgT).flatten = G at *
      cases hvd : d.valid with
      | false =>
        have hp : d.put = none := by rw [Sg.put, hvd]; rfl
        rw [hp] at Hput
        have Hvd := hid hvd; clear hvd
        go_wp2_with (first
          | ((with_reducible show wpList _ _ _ ({ dst := _, op := Op.load 92 _, type := _, pos := _, after := _, guard := _ } :: _) _ _); refine wpList_load_cs rfl 92 _ rfl ⟨b, o + k * 36, none⟩ rfl _ _ Hc.out Tryd.underlying92 rfl Hsz.out ?_)
          | ((with_reducible show wpList _ _ _ ({ dst := _, op := Op.store _ _ _, type := _, pos := _, after := _, guard := _ } :: _) _ _); refine wpList_store_newA rfl 92 _ _ rfl rfl (sgA d.z d.root d.i d.sig d.p) rfl _ 92 (by rw [Hsz2.out]; rfl) Hsz.out (sgA_one rfl) ?_)
          | ((with_reducible show wpList _ _ _ ({ dst := _, op := Op.load 92 _, type := _, pos := _, after := _, guard := _ } :: _) _ _); refine wpList_load_newA rfl 92 _ rfl rfl _ 92 _ Tryd.underlying92 rfl Hsz.out ?_)
          | (go_at_call 98; refine (Hput.out _ (Hin.out.below ((Below.refl _ _).alloc (Nat.le_refl _) _))).mono ?_; rintro e w4 ⟨rfl, hb4⟩; simp only [putR]))
        go_ret2
        exact ⟨by rw [headsV_of (Hall.out Hvd.out)]; rfl, (hb.trans (((Below.refl _ wr).alloc (Nat.le_refl _) _).mono hb.size)).trans (hb4.mono (by have := hb.size; simp; omega))⟩
      | true =>
        have hp : d.put = some d.bytes := by rw [Sg.put, hvd]; rfl
        rw [hp] at Hput
        have hbl2 := bytes_len d hvd hr Hl32.out
        have htl := sgT_len d hvd hr Hl32.out
        have Hvd := hid hvd; clear hvd
        have HsgT := hid (show numL d.bytes.length ++ d.bytes = sgT d from rfl)
        go_wp2_with (first
          | ((with_reducible show wpList _ _ _ ({ dst := _, op := Op.load 92 _, type := _, pos := _, after := _, guard := _ } :: _) _ _); refine wpList_load_cs rfl 92 _ rfl ⟨b, o + k * 36, none⟩ rfl _ _ Hc.out Tryd.underlying92 rfl Hsz.out ?_)
          | ((with_reducible show wpList _ _ _ ({ dst := _, op := Op.store _ _ _, type := _, pos := _, after := _, guard := _ } :: _) _ _); refine wpList_store_newA rfl 92 _ _ rfl rfl (sgA d.z d.root d.i d.sig d.p) rfl _ 92 (by rw [Hsz2.out]; rfl) Hsz.out (sgA_one rfl) ?_)
          | ((with_reducible show wpList _ _ _ ({ dst := _, op := Op.load 92 _, type := _, pos := _, after := _, guard := _ } :: _) _ _); refine wpList_load_newA rfl 92 _ rfl rfl _ 92 _ Tryd.underlying92 rfl Hsz.out ?_)
          | (go_at_call 98; refine (Hput.out _ (Hin.out.below ((Below.refl _ _).alloc (Nat.le_refl _) _))).mono ?_; rintro e w4 ⟨rfl, hb4⟩; simp only [putR])
          | (go_at_call 99; refine (text_any d.bytes _ (by omega)).mono ?_; rw [HsgT.out]; rintro e w5 ⟨rfl, hb5⟩))
        go_roundw
        case rel =>
          refine ⟨k + 1, by go_num, by omega, ?_, ?_, ?_⟩
          · rw [Htk.out, List.all_append, Hva.out]; simp [Hvd.out]
          · rw [Htk.out, List.map_append, List.flatten_append, ← hG]; simp
          · exact ((hb.trans (((Below.refl _ wr).alloc (Nat.le_refl _) _).mono hb.size)).trans (hb4.mono (by have := hb.size; simp; omega))).trans (hb5.mono (by have := hb.size; have := hb4.size; simp at this; omega))
        case measure => simp [intOf]; omega
    · have hke : k = ds.length := by omega
      subst hke
      have hva := Hva.out
      rw [List.take_length] at hva
      have Hva2 := hid hva; clear hva
      rw [List.take_length]
      have hd : ((ds.length : Int) == (n : Int)) = decide (ds.length = n) := by
        by_cases h : ds.length = n
        · simp [h]
        · rw [decide_eq_false h, beq_eq_false_iff_ne]; omega
      go_wp2
      go_ret2
      exact ⟨by rw [headsV_of Hva2.out]; rfl, hb⟩
set_option maxHeartbeats 2000000 in
theorem rsigned17_any (v : Value) (ds : List Sg) (w : World) (hv : SgsAt w v ds) (hn : ds.length ≤ 1000) :
    Calls Tryd.prog 87 #[v] w fun e w' => e = .returned (headsV ds true) ∧ Below w.heap.size w w' := by
  obtain ⟨a, cap, rfl, hcap⟩ := hv.form
  have Hv := hid hv; clear hv
  go_enter Tryd.func87, Tryd.ntmps87
  go_wp2_with fail
  go_loopw [4, 5] (fun s i wr => ∃ (k : Nat), i = .int .i64 k ∧ k ≤ ds.length ∧ (ds.take k).all Sg.valid = true ∧ s = sv ((ds.take k).map sgT).flatten ∧ Below w.heap.size w wr)
    (fun _ i _ => ds.length - (intOf i).toNat)
  case atStart => exact ⟨0, rfl, by omega, by simp, rfl, Below.refl _ _⟩
  case round =>
    obtain ⟨k, rfl, hk, hva, rfl, hb⟩ := hrel
    have Hva := hid hva; clear hva
    by_cases hlt : k < ds.length
    · have hdk := Hv.out.ok ds[k] (List.getElem_mem hlt)
      obtain ⟨b, o, rfl, hbl, hcell⟩ := (Hv.out.below hb).get hlt
      have hGl : (((ds.take k).map sgT).flatten).length ≤ 17010000 := by
        have h2 := sgTs_len (w := w) (ds.take k) (fun x hx => Hv.out.ok x (List.mem_of_mem_take hx)) Hva.out
        rw [List.length_take] at h2
        omega
      have Htk := hid (show ds.take (k + 1) = ds.take k ++ [ds[k]] from List.take_succ_eq_append_getElem hlt)
      have Hall := hid (show ds[k].valid = false → ds.all Sg.valid = false from fun h => by
        rw [Bool.eq_false_iff]
        intro h'
        have := List.all_eq_true.1 h' ds[k] (List.getElem_mem hlt)
        rw [h] at this; cases this)
      generalize hd : ds[k] = d at *
      clear hd
      have Hput := hid (fun w0 (h : d.In w0) => rsput_any d w0 h)
      have Hin := hid (hdk.below hb)
      have hr := hdk.r32
      have Hl32 := hid hdk.at_.len32
      have Hsz := hid (show (Tryd.prog.info? 92).map (·.size) = some (sgA d.z d.root d.i d.sig d.p).size by rw [sgA_size hr]; exact Tryd.sizeSigned)
      have Hc := hid hcell; clear hcell hdk
      have hk64 : (k : Int) < (ds.length : Int) := by omega
      generalize hG : ((ds.take k).map sgT).flatten = G at *
      cases hvd : d.valid with
      | false =>
        have hp : d.put = none := by rw [Sg.put, hvd]; rfl
        rw [hp] at Hput
        have Hvd := hid hvd; clear hvd
        go_wp2_with (first
          | ((with_reducible show wpList _ _ _ ({ dst := _, op := Op.load 92 _, type := _, pos := _, after := _, guard := _ } :: _) _ _); refine wpList_load_cs rfl 92 _ rfl ⟨b, o + k * 36, none⟩ rfl _ _ Hc.out Tryd.underlying92 rfl Hsz.out ?_)
          | (go_at_call 104; refine (Hput.out _ Hin.out).mono ?_; rintro e w4 ⟨rfl, hb4⟩; simp only [putR]))
        go_ret2
        exact ⟨by rw [headsV_of (Hall.out Hvd.out)]; rfl, hb.trans (hb4.mono hb.size)⟩
      | true =>
        have hp : d.put = some d.bytes := by rw [Sg.put, hvd]; rfl
        rw [hp] at Hput
        have hbl2 := bytes_len d hvd hr Hl32.out
        have htl := sgT_len d hvd hr Hl32.out
        have Hvd := hid hvd; clear hvd
        have HsgT := hid (show numL d.bytes.length ++ d.bytes = sgT d from rfl)
        go_wp2_with (first
          | ((with_reducible show wpList _ _ _ ({ dst := _, op := Op.load 92 _, type := _, pos := _, after := _, guard := _ } :: _) _ _); refine wpList_load_cs rfl 92 _ rfl ⟨b, o + k * 36, none⟩ rfl _ _ Hc.out Tryd.underlying92 rfl Hsz.out ?_)
          | (go_at_call 104; refine (Hput.out _ Hin.out).mono ?_; rintro e w4 ⟨rfl, hb4⟩; simp only [putR])
          | (go_at_call 88; refine (rtext_any d.bytes _ (by omega)).mono ?_; rw [HsgT.out]; rintro e w5 ⟨rfl, hb5⟩))
        go_roundw
        case rel =>
          refine ⟨k + 1, by go_num, by omega, ?_, ?_, ?_⟩
          · rw [Htk.out, List.all_append, Hva.out]; simp [Hvd.out]
          · rw [Htk.out, List.map_append, List.flatten_append, ← hG]; simp
          · exact (hb.trans (hb4.mono hb.size)).trans (hb5.mono (by have := hb.size; have := hb4.size; omega))
        case measure => simp [intOf]; omega
    · have hke : k = ds.length := by omega
      subst hke
      have hva := Hva.out
      rw [List.take_length] at hva
      have Hva2 := hid hva; clear hva
      rw [List.take_length]
      go_wp2
      go_ret2
      exact ⟨by rw [headsV_of Hva2.out]; rfl, hb⟩
theorem texts_lenM (M : Nat) : ∀ (es : List (List UInt8)), (∀ t ∈ es, t.length ≤ M) → M ≤ 100000 → ((es.map textT).flatten).length ≤ (M + 10) * es.length
  | [], _, _ => by simp
  | t :: es, h, hM => by
    have h1 := h t (by simp)
    have h2 := numL_len t.length (by omega)
    have h3 := texts_lenM M es (fun m hm => h m (by simp [hm])) hM
    simp only [List.map_cons, List.flatten_cons, List.length_append, List.length_cons, textT, Nat.mul_add, Nat.mul_one] at h3 ⊢
    omega
def okE (es : List (List UInt8)) : Bool := es.all (fun t => decide (t.length ≤ 200))
def entriesV (es : List (List UInt8)) : Value := if okE es then .tuple #[sv (entriesT es), .bool (decide (es.length ≤ 16))] else .tuple #[sv [], .bool false]
theorem entriesV_of {es : List (List UInt8)} {v : Bool} (h : okE es = v) : entriesV es = if v then .tuple #[sv (entriesT es), .bool (decide (es.length ≤ 16))] else .tuple #[sv [], .bool false] := by unfold entriesV; rw [h]
set_option maxHeartbeats 2000000 in
theorem entries17_any (v : Value) (es : List (List UInt8)) (w : World) (hv : StrsAt w v es) (hn : es.length ≤ 1000) :
    Calls Tryd.prog 82 #[v] w fun e w' => e = .returned (entriesV es) ∧ Below w.heap.size w w' := by
  obtain ⟨a, cap, rfl, hcap⟩ := hv.form
  have Hv := hid hv; clear hv
  have hnl := numL_len es.length (by omega)
  go_enter Tryd.func82, Tryd.ntmps82
  go_wp2_with (go_at_call 80; refine (num_any _ _ (by omega)).mono ?_; rintro e w1 ⟨rfl, hb1⟩)
  go_loopw [4, 13] (fun s i wr => ∃ (k : Nat), i = .int .i64 k ∧ k ≤ es.length ∧ okE (es.take k) = true ∧ s = sv (numL es.length ++ ((es.take k).map textT).flatten) ∧ Below w.heap.size w wr)
    (fun _ i _ => es.length - (intOf i).toNat)
  case atStart => exact ⟨0, rfl, by omega, by simp [okE], by simp, hb1⟩
  case round =>
    obtain ⟨k, rfl, hk, hva, rfl, hb⟩ := hrel
    have Hva := hid hva; clear hva
    by_cases hlt : k < es.length
    · obtain ⟨b, o, rfl, hbl, hcell⟩ := (Hv.out.below hb).at hlt
      have hGl : ((numL es.length ++ ((es.take k).map textT).flatten)).length ≤ 1000000 := by
        have hva := Hva.out
        simp only [okE, List.all_eq_true, decide_eq_true_eq] at hva
        have h2 := texts_len (es.take k) hva
        rw [List.length_take] at h2
        rw [List.length_append]
        omega
      have Htk := hid (show es.take (k + 1) = es.take k ++ [es[k]] from List.take_succ_eq_append_getElem hlt)
      have Hall := hid (show ¬ es[k].length ≤ 200 → okE es = false from fun h => by
        rw [Bool.eq_false_iff]
        intro h'
        have := List.all_eq_true.1 h' es[k] (List.getElem_mem hlt)
        exact h (by simpa using this))
      generalize hd : es[k] = d at *
      clear hd
      have hk64 : (k : Int) < (es.length : Int) := by omega
      generalize hG : numL es.length ++ ((es.take k).map textT).flatten = G at *
      by_cases h2 : d.length ≤ 200
      · have d1 : decide ((200 : Int) < (d.length : Int)) = false := decide_eq_false (by omega)
        have htl := numL_len d.length (by omega)
        have HtT := hid (show numL d.length ++ d = textT d from rfl)
        have htT : (textT d).length ≤ 210 := by unfold textT; rw [List.length_append]; omega
        have H2 := hid h2
        go_wp2_with (go_at_call 99; refine (text_any d _ (by omega)).mono ?_; rw [HtT.out]; rintro e w5 ⟨rfl, hb5⟩)
        go_roundw
        case rel =>
          refine ⟨k + 1, by go_num, by omega, ?_, ?_, hb.trans (hb5.mono hb.size)⟩
          · rw [Htk.out]
            have hva := Hva.out
            unfold okE at hva ⊢
            rw [List.all_append, hva]
            simpa using H2.out
          · rw [Htk.out, List.map_append, List.flatten_append, ← List.append_assoc, hG]; simp
        case measure => simp [intOf]; omega
      · have d1 : decide ((200 : Int) < (d.length : Int)) = true := decide_eq_true (by omega)
        have E := hid (Hall.out h2)
        clear h2
        go_wp2
        go_ret2
        exact ⟨by rw [entriesV_of E.out]; rfl, hb⟩
    · have hke : k = es.length := by omega
      subst hke
      have hva := Hva.out
      rw [List.take_length] at hva
      have Hva2 := hid hva; clear hva
      rw [List.take_length]
      have HE := hid (show numL es.length ++ (es.map textT).flatten = entriesT es from rfl)
      rw [HE.out]
      have hd : decide ((es.length : Int) ≤ 16) = decide (es.length ≤ 16) := decide_eq_decide.2 (by omega)
      go_wp2
      go_ret2
      exact ⟨by rw [entriesV_of Hva2.out]; rfl, hb⟩
end Go.Proofs.YtbpjlancjdbehaaDoor
/- messages.PutReply -/
namespace Go.Proofs.YtbpjlancjdbehaaDoor
open Go.RowKit Go.Spec
def rpC (x : RpK) (vh ve vp : Value) : Array Value := #[.int .i64 x.id, .int .i64 x.kind, .int .i64 x.code, vh, ve, vp]
/-- a reply, where it lies -/
structure RpIn (w : World) (x : RpK) (vh ve vp : Value) (ds : List Sg) : Prop where
  heads : SgsAt w vh ds
  keys : ds.map Sg.k = x.heads
  entries : StrsAt w ve x.entries
  proof : SlAt w 32 vp (hcs x.proof)
structure RpSmall (x : RpK) : Prop where
  heads : x.heads.length ≤ 1000
  entries : x.entries.length ≤ 1000
  each : ∀ t ∈ x.entries, t.length ≤ 100000
  proof : x.proof.length ≤ 1000000
  code : x.code < 9223372036854775808
theorem RpIn.below {w w' : World} {x : RpK} {vh ve vp : Value} {ds : List Sg} (h : RpIn w x vh ve vp ds) (hb : Below w.heap.size w w') : RpIn w' x vh ve vp ds := ⟨h.heads.below hb, h.keys, h.entries.below hb, h.proof.below hb (Nat.le_refl _)⟩
theorem keys_all (ds : List Sg) : ((ds.map Sg.k).map ofK).all Sg.valid = ds.all Sg.valid := by simp only [List.map_map, List.all_map]; rfl
theorem keys_T (ds : List Sg) : sgsT (ds.map Sg.k) = (ds.map sgT).flatten := by unfold sgsT; simp only [List.map_map]; rfl
theorem headsB_ds {ds : List Sg} {ks : List SgK} (h : ds.map Sg.k = ks) (n : Nat) : headsB ks n = (ds.all Sg.valid && decide (ds.length = n)) := by subst h; unfold headsB; rw [keys_all, List.length_map]
theorem body1 {x : RpK} (h : x.kind = 1) : bodyRp x = if 1 ≤ x.code ∧ x.code ≤ 255 then some (numL x.code.toNat) else none := by unfold bodyRp; rw [if_pos h]
theorem body2 {x : RpK} {ds : List Sg} (h : x.kind = 2) (hk : ds.map Sg.k = x.heads) : bodyRp x = if ds.all Sg.valid && decide (ds.length = 1) then some (ds.map sgT).flatten else none := by
  unfold bodyRp; rw [if_neg (by omega), if_pos h, headsB_ds hk, ← hk, keys_T]
theorem body3 {x : RpK} (h : x.kind = 3) : bodyRp x = if okE x.entries && decide (x.entries.length ≤ 16) && decide (x.proof.length ≤ 64) then some (entriesT x.entries ++ hashesL x.proof) else none := by
  unfold bodyRp; rw [if_neg (by omega), if_neg (by omega), if_pos h]; rfl
theorem body4 {x : RpK} (h : x.kind = 4) : bodyRp x = if x.proof.length ≤ 64 then some (hashesL x.proof) else none := by
  unfold bodyRp; rw [if_neg (by omega), if_neg (by omega), if_neg (by omega), if_pos h]
theorem body5 {x : RpK} {ds : List Sg} (h : x.kind = 5) (hk : ds.map Sg.k = x.heads) : bodyRp x = if ds.all Sg.valid && decide (ds.length = 2) then some (ds.map sgT).flatten else none := by
  unfold bodyRp; rw [if_neg (by omega), if_neg (by omega), if_neg (by omega), if_neg (by omega), if_pos h, headsB_ds hk, ← hk, keys_T]
theorem body0 {x : RpK} (h : kindB x.kind = false) : bodyRp x = none := by
  have hk := mt kindB_iff.2 (by rw [h]; simp : ¬ kindB x.kind = true)
  unfold bodyRp; rw [if_neg (by omega), if_neg (by omega), if_neg (by omega), if_neg (by omega), if_neg (by omega)]
/-- what stands of a body -/
def BodyIs (x : RpK) (s : List UInt8) (b : Bool) : Prop := (b = true → bodyRp x = some s ∧ s.length ≤ 20000000) ∧ (b = false → bodyRp x = none)
theorem entriesT_len (es : List (List UInt8)) (h : okE es = true) (hn : es.length ≤ 1000) : (entriesT es).length ≤ 1000000 := by
  simp only [okE, List.all_eq_true, decide_eq_true_eq] at h
  have h1 := texts_len es h
  have h2 := numL_len es.length (by omega)
  unfold entriesT
  rw [List.length_append]
  omega
set_option maxHeartbeats 8000000 in
theorem rpput_any (x : RpK) (vh ve vp : Value) (ds : List Sg) (w : World) (hx : RpIn w x vh ve vp ds) (hs : RpSmall x) :
    Calls Tryd.prog 61 #[.agg (rpC x vh ve vp)] w fun e w' => e = .returned (putR (putRp x)) ∧ Below w.heap.size w w' := by
  have h32 := hx.proof.len32
  have HP := hid (show putRp x = if goodZ x.id then (bodyRp x).map (fun b => 82 :: (numL x.id.toNat ++ (numL x.kind.toNat ++ b))) else none from rfl)
  generalize putRp x = PV at *
  have hdl : ds.length ≤ 1000 := by have := hs.heads; rw [← hx.keys, List.length_map] at this; exact this
  have HX := hid hx
  have HS := hid hs
  have H32 := hid h32
  clear hx hs h32
  go_enter Tryd.func61, Tryd.ntmps61
  go_upto_region 1 with fail
  refine wp_world (fun W => Blk W w.heap.size (rpC x vh ve vp) 68 ∧ Below w.heap.size w W ∧ W.heap.size = w.heap.size + 1) ⟨Blk.new w _ _, (Below.refl _ w).alloc (Nat.le_refl _) _, by simp⟩ ?_
  rintro w0 ⟨HB0, hb0, hsz0⟩
  have HB1 := hid HB0
  have Hb0 := hid hb0
  clear HB0
  have c0 : w0.cell? ⟨w.heap.size, 0, none⟩ = some (.int .i64 x.id) := Blk.cell HB1.out 0
  have c1 : w0.cell? ⟨w.heap.size, 1, none⟩ = some (.int .i64 x.kind) := Blk.cell HB1.out 1
  have c2 : w0.cell? ⟨w.heap.size, 2, none⟩ = some (.int .i64 x.code) := Blk.cell HB1.out 2
  have c3 : w0.cell? ⟨w.heap.size, 3, none⟩ = some vh := Blk.cell HB1.out 3
  have c4 : w0.cell? ⟨w.heap.size, 4, none⟩ = some ve := Blk.cell HB1.out 4
  have c5 : w0.cell? ⟨w.heap.size, 5, none⟩ = some vp := Blk.cell HB1.out 5
  have HX0 := hid (HX.out.below hb0)
  clear hb0
  cases hg : goodZ x.id with
  | false =>
    have E := hid (show PV = none by rw [HP.out, hg]; rfl)
    have hn := mt goodZ_iff.2 (by rw [hg]; simp : ¬ goodZ x.id = true)
    clear hg HP
    by_cases h1 : x.id < 0
    · have d1 : decide (x.id < 0) = true := decide_eq_true h1
      clear h1 hn
      go_wp2
      go_ret2
      exact ⟨by rw [E.out]; rfl, Hb0.out⟩
    · have d1 : decide (x.id < 0) = false := decide_eq_false h1
      have d2 : decide (1073741824 < x.id) = true := decide_eq_true (by omega)
      clear h1 hn
      go_wp2
      go_ret2
      exact ⟨by rw [E.out]; rfl, Hb0.out⟩
  | true =>
  have hg' := goodZ_iff.1 hg
  have HP2 := hid (show PV = (bodyRp x).map (fun b => 82 :: (numL x.id.toNat ++ (numL x.kind.toNat ++ b))) by rw [HP.out, hg]; rfl)
  clear HP hg
  have d1 : decide (x.id < 0) = false := decide_eq_false (by omega)
  have d2 : decide (1073741824 < x.id) = false := decide_eq_false (by omega)
  have Hg := hid hg'; clear hg'
  go_upto_block 0 with fail
  clear d1 d2
  go_cut [4, 5] (fun b ok wx => (∃ s bb, b = sv s ∧ ok = .bool bb ∧ BodyIs x s bb) ∧ Below w0.heap.size w0 wx)
  case first =>
    rcases (show x.kind = 1 ∨ x.kind = 2 ∨ x.kind = 3 ∨ x.kind = 4 ∨ x.kind = 5 ∨ kindB x.kind = false by
      cases h : kindB x.kind with
      | false => simp
      | true => have := kindB_iff.1 h; omega) with hK | hK | hK | hK | hK | hK
    · have HBd := hid (body1 hK)
      have e1 : (x.kind == 1) = true := by simp; omega
      clear hK
      by_cases h1 : 0 < x.code
      · have d1 : decide (0 < x.code) = true := decide_eq_true h1
        by_cases h2 : x.code < 256
        · have d2 : decide (x.code < 256) = true := decide_eq_true h2
          obtain ⟨n, hn⟩ : ∃ n : Nat, x.code = n := ⟨x.code.toNat, by omega⟩
          have hn2 : n < 256 := by omega
          have E := hid (show bodyRp x = some (numL n) by rw [HBd.out, if_pos (by omega), hn]; rfl)
          rw [hn] at c2 d1 d2
          have hl := numL_len n (by omega)
          have d3 : decide (0 < n) = true := decide_eq_true (by omega)
          clear HBd h1 h2 hn
          go_wp2_with (go_at_call 80; refine (num_any n _ (by omega)).mono ?_; rintro e w2 ⟨rfl, hb2⟩)
          go_meet
          exact ⟨⟨_, true, rfl, rfl, fun _ => ⟨E.out, by omega⟩, fun h => (by cases h)⟩, hb2⟩
        · have d2 : decide (x.code < 256) = false := decide_eq_false h2
          have E := hid (show bodyRp x = none by rw [HBd.out, if_neg (by omega)])
          clear HBd h1 h2
          go_wp2
          go_meet
          exact ⟨⟨[], false, rfl, rfl, fun h => (by cases h), fun _ => E.out⟩, Below.refl _ _⟩
      · have d1 : decide (0 < x.code) = false := decide_eq_false h1
        have E := hid (show bodyRp x = none by rw [HBd.out, if_neg (by omega)])
        clear HBd h1
        go_wp2
        go_meet
        exact ⟨⟨[], false, rfl, rfl, fun h => (by cases h), fun _ => E.out⟩, Below.refl _ _⟩
    · have HBd := hid (body2 hK HX.out.keys)
      have e1 : (x.kind == 1) = false := by simp; omega
      have e2 : (x.kind == 2) = true := by simp; omega
      clear hK
      have CS := hid (signed17_any vh ds 1 w0 HX0.out.heads hdl (by omega))
      cases hv : ds.all Sg.valid with
      | false =>
        have E := hid (show bodyRp x = none by rw [HBd.out, hv]; rfl)
        rw [headsV_of hv] at CS
        clear HBd hv
        go_wp2_with (go_at_call 81; refine (CS.out).mono ?_; rintro e w2 ⟨rfl, hb2⟩)
        go_meet
        exact ⟨⟨[], false, rfl, rfl, fun h => (by cases h), fun _ => E.out⟩, hb2⟩
      | true =>
        have E := hid (show bodyRp x = if decide (ds.length = 1) then some (ds.map sgT).flatten else none by rw [HBd.out, hv]; rfl)
        have hl := sgsT_len ds HX.out.heads.ok hv
        rw [headsV_of hv] at CS
        clear HBd hv
        go_wp2_with (go_at_call 81; refine (CS.out).mono ?_; rintro e w2 ⟨rfl, hb2⟩)
        go_meet
        exact ⟨⟨_, _, rfl, rfl, fun h => ⟨by rw [E.out, h]; rfl, by omega⟩, fun h => by rw [E.out, h]; rfl⟩, hb2⟩
    · have HBd := hid (body3 hK)
      have e1 : (x.kind == 1) = false := by simp; omega
      have e2 : (x.kind == 2) = false := by simp; omega
      have e3 : (x.kind == 3) = true := by simp; omega
      clear hK
      have hpl := HS.out.proof
      obtain ⟨pa, pc, rfl, hpc⟩ := HX0.out.proof.formH
      have CE := hid (entries17_any ve x.entries w0 HX0.out.entries HS.out.entries)
      have CH := hid (fun (w2 : World) (hb2 : Below w0.heap.size w0 w2) => hashes_any _ x.proof w2 (HX0.out.proof.below hb2 (Nat.le_refl _)) (by omega))
      have hhl := hashesL_len x.proof H32.out
      have h5 := HB1.out.lt
      cases hv : okE x.entries with
      | false =>
        have E := hid (show bodyRp x = none by rw [HBd.out, hv]; rfl)
        rw [entriesV_of hv] at CE
        clear HBd hv
        go_wp2_with (first
          | (go_at_call 82; refine (CE.out).mono ?_; rintro e w2 ⟨rfl, hb2⟩; have c5' := (hb2.cell (p := ⟨w.heap.size, 5, none⟩) h5).trans c5)
          | (go_at_call 83; refine (CH.out _ hb2).mono ?_; rintro e w3 ⟨rfl, hb3⟩; have c5'' := (hb3.cell (p := ⟨w.heap.size, 5, none⟩) (Nat.lt_of_lt_of_le h5 hb2.size)).trans c5'))
        go_meet
        exact ⟨⟨_, false, rfl, rfl, fun h => (by cases h), fun _ => E.out⟩, bth hb2 hb3⟩
      | true =>
        have hel := entriesT_len x.entries hv HS.out.entries
        have E := hid (show bodyRp x = if decide (x.entries.length ≤ 16) && decide (x.proof.length ≤ 64) then some (entriesT x.entries ++ hashesL x.proof) else none by rw [HBd.out, hv]; rfl)
        rw [entriesV_of hv] at CE
        clear HBd hv
        cases h16 : decide (x.entries.length ≤ 16) with
        | false =>
          rw [h16] at E CE
          clear h16
          go_wp2_with (first
            | (go_at_call 82; refine (CE.out).mono ?_; rintro e w2 ⟨rfl, hb2⟩; have c5' := (hb2.cell (p := ⟨w.heap.size, 5, none⟩) h5).trans c5)
            | (go_at_call 83; refine (CH.out _ hb2).mono ?_; rintro e w3 ⟨rfl, hb3⟩; have c5'' := (hb3.cell (p := ⟨w.heap.size, 5, none⟩) (Nat.lt_of_lt_of_le h5 hb2.size)).trans c5'))
          go_meet
          exact ⟨⟨_, false, rfl, rfl, fun h => (by cases h), fun _ => by rw [E.out]; rfl⟩, bth hb2 hb3⟩
        | true =>
          rw [h16] at E CE
          clear h16
          have hd : decide ((x.proof.length : Int) ≤ 64) = decide (x.proof.length ≤ 64) := decide_eq_decide.2 (by omega)
          go_wp2_with (first
            | (go_at_call 82; refine (CE.out).mono ?_; rintro e w2 ⟨rfl, hb2⟩; have c5' := (hb2.cell (p := ⟨w.heap.size, 5, none⟩) h5).trans c5)
            | (go_at_call 83; refine (CH.out _ hb2).mono ?_; rintro e w3 ⟨rfl, hb3⟩; have c5'' := (hb3.cell (p := ⟨w.heap.size, 5, none⟩) (Nat.lt_of_lt_of_le h5 hb2.size)).trans c5'))
          go_meet
          exact ⟨⟨_, _, rfl, rfl, fun h => ⟨by rw [E.out, h]; rfl, by rw [List.length_append]; omega⟩, fun h => by rw [E.out, h]; rfl⟩, bth hb2 hb3⟩
    · have HBd := hid (body4 hK)
      have e1 : (x.kind == 1) = false := by simp; omega
      have e2 : (x.kind == 2) = false := by simp; omega
      have e3 : (x.kind == 3) = false := by simp; omega
      have e4 : (x.kind == 4) = true := by simp; omega
      clear hK
      have hpl := HS.out.proof
      obtain ⟨pa, pc, rfl, hpc⟩ := HX0.out.proof.formH
      have hhl := hashesL_len x.proof H32.out
      have CH := hid (fun q : Later w0 => hashes_any _ x.proof (lat q) (HX0.out.proof.below (lat_below q) (Nat.le_refl _)) (by omega))
      have hd : decide ((x.proof.length : Int) ≤ 64) = decide (x.proof.length ≤ 64) := decide_eq_decide.2 (by omega)
      go_upto_region 16 with fail
      refine wp_region_later (by kernel_rfl) (by kernel_rfl) ?_
      repeat (first
        | (refine wpQuiet_load_one rfl 22 _ rfl ⟨w.heap.size, 5, none⟩ rfl (.slice pa x.proof.length pc) _ (by rintro _ ⟨q, rfl⟩; exact (Blk.cell (HB1.out.later (lat_below q)) 5)) Tryd.underlying22 rfl ?_; simp only [Act.put, List.setIfInBounds_toArray, List.set_cons_succ, List.set_cons_zero])
        | go_big_quiet_step ((first | (go_at_call 83; with_reducible exact calls_later (CH.out _)))))
      refine wpQuiet_nil ?_
      rintro _ ⟨q3, rfl⟩
      have hb3 := lat_below q3
      generalize lat q3 = w3 at *
      go_wp2
      go_meet
      exact ⟨⟨_, decide (x.proof.length ≤ 64), rfl, rfl, fun h => ⟨by rw [HBd.out, if_pos (by simpa using h)], by omega⟩, fun h => by rw [HBd.out, if_neg (by simpa using h)]⟩, hb3⟩
    · have HBd := hid (body5 hK HX.out.keys)
      have e1 : (x.kind == 1) = false := by simp; omega
      have e2 : (x.kind == 2) = false := by simp; omega
      have e3 : (x.kind == 3) = false := by simp; omega
      have e4 : (x.kind == 4) = false := by simp; omega
      have e5 : (x.kind == 5) = true := by simp; omega
      clear hK
      have CS := hid (signed17_any vh ds 2 w0 HX0.out.heads hdl (by omega))
      cases hv : ds.all Sg.valid with
      | false =>
        have E := hid (show bodyRp x = none by rw [HBd.out, hv]; rfl)
        rw [headsV_of hv] at CS
        clear HBd hv
        go_wp2_with (go_at_call 81; refine (CS.out).mono ?_; rintro e w2 ⟨rfl, hb2⟩)
        go_meet
        exact ⟨⟨[], false, rfl, rfl, fun h => (by cases h), fun _ => E.out⟩, hb2⟩
      | true =>
        have E := hid (show bodyRp x = if decide (ds.length = 2) then some (ds.map sgT).flatten else none by rw [HBd.out, hv]; rfl)
        have hl := sgsT_len ds HX.out.heads.ok hv
        rw [headsV_of hv] at CS
        clear HBd hv
        go_wp2_with (go_at_call 81; refine (CS.out).mono ?_; rintro e w2 ⟨rfl, hb2⟩)
        go_meet
        exact ⟨⟨_, _, rfl, rfl, fun h => ⟨by rw [E.out, h]; rfl, by omega⟩, fun h => by rw [E.out, h]; rfl⟩, hb2⟩
    · have E := hid (body0 hK)
      have hk := mt kindB_iff.2 (by rw [hK]; simp : ¬ kindB x.kind = true)
      have e1 : (x.kind == 1) = false := by simp; omega
      have e2 : (x.kind == 2) = false := by simp; omega
      have e3 : (x.kind == 3) = false := by simp; omega
      have e4 : (x.kind == 4) = false := by simp; omega
      have e5 : (x.kind == 5) = false := by simp; omega
      clear hk hK
      go_wp2
      go_meet
      exact ⟨⟨[], false, rfl, rfl, fun h => (by cases h), fun _ => E.out⟩, Below.refl _ _⟩
  case rest =>
    obtain ⟨⟨s, bb, rfl, rfl, hbody⟩, hbc⟩ := hcut
    cases bb with
    | false =>
      have E := hid (show PV = none by rw [HP2.out, hbody.2 rfl]; rfl)
      clear hbody
      go_wp2
      go_ret2
      exact ⟨by rw [E.out]; rfl, Hb0.out.trans (hbc.mono (by omega))⟩
    | true =>
      obtain ⟨hbd, hbl⟩ := hbody.1 rfl
      clear hbody
      have hg := Hg.out
      have hk : 1 ≤ x.kind ∧ x.kind ≤ 5 := by
        cases h : kindB x.kind with
        | false => rw [body0 h] at hbd; cases hbd
        | true => exact kindB_iff.1 h
      obtain ⟨idn, hidn⟩ : ∃ n : Nat, x.id = n := ⟨x.id.toNat, by omega⟩
      obtain ⟨kn, hkn⟩ : ∃ n : Nat, x.kind = n := ⟨x.kind.toNat, by omega⟩
      have E := hid (show PV = some (82 :: (numL idn ++ (numL kn ++ s))) by rw [HP2.out, hbd, hidn, hkn]; rfl)
      have HB2 := hid (HB1.out.later hbc)
      have Hbc := hid (show Below w.heap.size w wc from Hb0.out.trans (hbc.mono (by omega)))
      have hi1 : idn ≤ 1073741824 := by omega
      have hk1 : kn ≤ 5 := by omega
      have NI := hid (fun q : Later wc => num_any idn (lat q) (by omega))
      have NK := hid (fun q : Later wc => num_any kn (lat q) (by omega))
      have l1 := numL_len idn (by omega)
      have l2 := numL_len kn (by omega)
      have Hid0 := hid (show (rpC x vh ve vp)[0]? = some (.int .i64 (idn : Int)) by rw [← hidn]; rfl)
      have Hid1 := hid (show (rpC x vh ve vp)[1]? = some (.int .i64 (kn : Int)) by rw [← hkn]; rfl)
      clear hbd hg hk hidn hkn hbc c0 c1 c2 c3 c4 c5
      go_upto_region 21 with fail
      refine wp_region_later (by kernel_rfl) (by kernel_rfl) ?_
      repeat (first
        | (refine wpQuiet_load_one rfl 3 _ rfl ⟨w.heap.size, 0, none⟩ rfl (.int .i64 (idn : Int)) _ (by rintro _ ⟨q, rfl⟩; exact ((Blk.cell (HB2.out.later (lat_below q)) 0).trans Hid0.out)) Tryd.underlying3 rfl ?_; simp only [Act.put, List.setIfInBounds_toArray, List.set_cons_succ, List.set_cons_zero])
        | (refine wpQuiet_load_one rfl 3 _ rfl ⟨w.heap.size, 1, none⟩ rfl (.int .i64 (kn : Int)) _ (by rintro _ ⟨q, rfl⟩; exact ((Blk.cell (HB2.out.later (lat_below q)) 1).trans Hid1.out)) Tryd.underlying3 rfl ?_; simp only [Act.put, List.setIfInBounds_toArray, List.set_cons_succ, List.set_cons_zero])
        | go_big_quiet_step ((first | (go_at_call 80; with_reducible exact calls_later (NI.out _)) | (go_at_call 80; with_reducible exact calls_later (NK.out _)))))
      refine wpQuiet_nil ?_
      rintro _ ⟨q3, rfl⟩
      have hb3 := lat_below q3
      generalize lat q3 = w3 at *
      go_wp2
      go_ret2
      exact ⟨by rw [E.out]; simp [putR], bth Hbc.out hb3⟩
end Go.Proofs.YtbpjlancjdbehaaDoor
