/- Great: is a reply more than is gone through? -/
import Derived.Test.YtjpnlnbpaecciaaQMsgSigned

set_option maxRecDepth 100000
namespace Go.Proofs.Ytjpnlnbpaecciaa
open Go.RowKit Go.Spec
/-- a signed head of any lengths -/
structure SgRaw (w : World) (d : Sg) : Prop where
  r32 : d.root.length = 32
  at_ : SlAt w 32 d.p (hcs d.path)
  sl : d.sig.length ≤ 9223372036854775807
  pl : d.path.length ≤ 9223372036854775807
/-- a reply of any lengths, where it lies -/
structure RpRaw (w : World) (x : RpK) (vh ve vp : Value) (ds : List Sg) : Prop where
  heads : SlAt w 36 vh (ds.map Sg.L)
  each : ∀ d ∈ ds, SgRaw w d
  keys : ds.map Sg.k = x.heads
  entries : StrsAt w ve x.entries
  proof : SlAt w 32 vp (hcs x.proof)
  l1 : ds.length ≤ 9223372036854775807
  l2 : x.entries.length ≤ 9223372036854775807
  l3 : x.proof.length ≤ 9223372036854775807
  l4 : ∀ t ∈ x.entries, t.length ≤ 9223372036854775807
/-- what Great lets pass -/
structure Lean17 (x : RpK) (ds : List Sg) : Prop where
  e1 : x.entries.length ≤ 20
  e2 : ∀ t ∈ x.entries, t.length ≤ 300
  h1 : ds.length ≤ 3
  h2 : ∀ d ∈ ds, d.path.length ≤ 10 ∧ d.sig.length ≤ 17000
  p1 : x.proof.length ≤ 80
theorem RpRaw.below {w w' : World} {x : RpK} {vh ve vp : Value} {ds : List Sg} (h : RpRaw w x vh ve vp ds) (hb : Below w.heap.size w w') : RpRaw w' x vh ve vp ds :=
  ⟨h.heads.below hb (Nat.le_refl _), fun d hd => ⟨(h.each d hd).r32, (h.each d hd).at_.below hb (Nat.le_refl _), (h.each d hd).sl, (h.each d hd).pl⟩, h.keys, h.entries.below hb, h.proof.below hb (Nat.le_refl _), h.l1, h.l2, h.l3, h.l4⟩
theorem RpRaw.in_ {w : World} {x : RpK} {vh ve vp : Value} {ds : List Sg} (h : RpRaw w x vh ve vp ds) (hl : Lean17 x ds) : RpIn w x vh ve vp ds :=
  ⟨⟨h.heads, fun d hd => ⟨(h.each d hd).r32, (h.each d hd).at_, by have := (hl.h2 d hd).2; omega, by have := (hl.h2 d hd).1; omega⟩⟩, h.keys, h.entries, h.proof⟩
theorem Lean17.small {w : World} {x : RpK} {vh ve vp : Value} {ds : List Sg} (hl : Lean17 x ds) (h : RpRaw w x vh ve vp ds) (hc : x.code < 9223372036854775808) : RpSmall x :=
  ⟨by rw [← h.keys, List.length_map]; have := hl.h1; omega, by have := hl.e1; omega, fun t ht => by have := hl.e2 t ht; omega, by have := hl.p1; omega, hc⟩
set_option maxHeartbeats 8000000 in
theorem great17_any (x : RpK) (vh ve vp : Value) (ds : List Sg) (w : World) (hx : RpRaw w x vh ve vp ds) :
    Calls Try.prog 22 #[.agg (rpC x vh ve vp)] w fun e w' => (∃ b, e = .returned (.bool b) ∧ (b = false → Lean17 x ds) ∧ (b = true → ¬ Lean17 x ds)) ∧ Below w.heap.size w w' := by
  obtain ⟨ha, hac, rfl, _⟩ : ∃ a cap, vh = .slice a ds.length cap ∧ ds.length ≤ cap := by have := hx.heads.form; rwa [List.length_map] at this
  obtain ⟨ea, eac, rfl, _⟩ := hx.entries.form
  obtain ⟨pa, pac, rfl, _⟩ := hx.proof.formH
  have l1 := hx.l1; have l2 := hx.l2; have l3 := hx.l3
  have HX := hid hx; clear hx
  go_enter Try.func22, Try.ntmps22
  go_upto_region 1 with fail
  refine wp_world (fun W => Blk W w.heap.size (rpC x (.slice ha ds.length hac) (.slice ea x.entries.length eac) (.slice pa x.proof.length pac)) 51 ∧ Below w.heap.size w W) ⟨Blk.new _ _ _, (Below.refl _ w).alloc (Nat.le_refl _) _⟩ ?_
  rintro w0 ⟨hB0, hb0⟩
  have a3 : w0.cell? ⟨w.heap.size, 3, none⟩ = some (.slice ha ds.length hac) := Blk.cell hB0 3
  have a4 : w0.cell? ⟨w.heap.size, 4, none⟩ = some (.slice ea x.entries.length eac) := Blk.cell hB0 4
  have a5 : w0.cell? ⟨w.heap.size, 5, none⟩ = some (.slice pa x.proof.length pac) := Blk.cell hB0 5
  have HX0 := hid (HX.out.below hb0)
  have Hb0 := hid hb0
  clear hB0 hb0
  go_wp2
  go_loopw [3] (fun i wr => ∃ k : Nat, k ≤ x.entries.length ∧ i = .int .i64 k ∧ (∀ t ∈ x.entries.take k, t.length ≤ 300) ∧ wr = w0) (fun i _ => x.entries.length - (intOf i).toNat)
  case atStart => exact ⟨0, by omega, rfl, by simp, rfl⟩
  case round =>
    obtain ⟨k, hk, rfl, htk, rfl⟩ := hrel
    have Htk := hid htk; clear htk
    by_cases hlt : k < x.entries.length
    · obtain ⟨b, o, rfl, hbl, hcell⟩ := HX0.out.entries.at hlt
      have hkI : (k : Int) < (x.entries.length : Int) := by omega
      have Htk2 := hid (show x.entries.take (k + 1) = x.entries.take k ++ [x.entries[k]] from List.take_succ_eq_append_getElem hlt)
      have hone := HX.out.l4 _ (List.getElem_mem hlt)
      have Hbad := hid (show ¬ x.entries[k].length ≤ 300 → ¬ Lean17 x ds from fun h hL => h (hL.e2 _ (List.getElem_mem hlt)))
      generalize x.entries[k] = t at *
      by_cases h3 : t.length ≤ 300
      · have d1 : decide ((300 : Int) < (t.length : Int)) = false := decide_eq_false (by omega)
        have H3 := hid h3; clear h3
        go_wp2
        go_roundw
        case rel =>
          refine ⟨k + 1, by omega, by go_num, ?_, trivial⟩
          rw [Htk2.out]
          intro y hy
          rw [List.mem_append, List.mem_singleton] at hy
          rcases hy with hy | rfl
          · exact Htk.out y hy
          · exact H3.out
        case measure => simp [intOf]; omega
      · have d1 : decide ((300 : Int) < (t.length : Int)) = true := decide_eq_true (by omega)
        have Hn := hid (Hbad.out h3)
        clear h3
        go_wp2
        go_ret
        exact ⟨⟨true, rfl, fun h => (by cases h), fun _ => Hn.out⟩, Hb0.out⟩
    · obtain rfl : k = x.entries.length := by omega
      have He := hid (show ∀ t ∈ x.entries, t.length ≤ 300 by have := Htk.out; rw [List.take_length] at this; exact this)
      clear hlt Htk
      go_wp2
      generalize wr = w0 at *
      go_loopw [4] (fun i wr => ∃ k : Nat, k ≤ ds.length ∧ i = .int .i64 k ∧ (∀ d ∈ ds.take k, d.path.length ≤ 10 ∧ d.sig.length ≤ 17000) ∧ wr = w0) (fun i _ => ds.length - (intOf i).toNat)
      case atStart => exact ⟨0, by omega, rfl, by simp, rfl⟩
      case round =>
        obtain ⟨k, hk, rfl, htk, rfl⟩ := hrel
        have Htk := hid htk; clear htk
        by_cases hlt : k < ds.length
        · obtain ⟨b, o, rfl, hbl, hcell⟩ := HX0.out.heads.at (i := k) (cs := (ds[k]).L) (by simp [hlt])
          have hraw := HX0.out.each _ (List.getElem_mem hlt)
          have hkI : (k : Int) < (ds.length : Int) := by omega
          have Htk2 := hid (show ds.take (k + 1) = ds.take k ++ [ds[k]] from List.take_succ_eq_append_getElem hlt)
          have Hbad := hid (show ¬ (ds[k].path.length ≤ 10 ∧ ds[k].sig.length ≤ 17000) → ¬ Lean17 x ds from fun h hL => h (hL.h2 _ (List.getElem_mem hlt)))
          generalize ds[k] = d at *
          have hr := hraw.r32
          have hsl := hraw.sl; have hpl := hraw.pl
          have hp : wr.cell? ⟨b, o + k * 36 + 35, none⟩ = some (.slice d.a d.path.length d.cap) := by
            have := hcell.2 35 (.slice d.a d.path.length d.cap) (by show (sgA d.z d.root d.i d.sig d.p).toList[35]? = _; rw [Array.getElem?_toList]; exact sgA_get35 hr)
            rwa [Addr.add_lit] at this
          have hs : wr.cell? ⟨b, o + k * 36 + 34, none⟩ = some (sv d.sig) := by
            have := hcell.2 34 (sv d.sig) (by show (sgA d.z d.root d.i d.sig d.p).toList[34]? = _; rw [Array.getElem?_toList]; exact sgA_get34 hr)
            rwa [Addr.add_lit] at this
          clear hcell hraw
          by_cases h3 : d.path.length ≤ 10
          · have d1 : decide ((10 : Int) < (d.path.length : Int)) = false := decide_eq_false (by omega)
            by_cases h4 : d.sig.length ≤ 17000
            · have d2 : decide ((17000 : Int) < (d.sig.length : Int)) = false := decide_eq_false (by omega)
              have H3 := hid (And.intro h3 h4); clear h3 h4
              go_wp2
              go_roundw
              case rel =>
                refine ⟨k + 1, by omega, by go_num, ?_, trivial⟩
                rw [Htk2.out]
                intro y hy
                rw [List.mem_append, List.mem_singleton] at hy
                rcases hy with hy | rfl
                · exact Htk.out y hy
                · exact H3.out
              case measure => simp [intOf]; omega
            · have d2 : decide ((17000 : Int) < (d.sig.length : Int)) = true := decide_eq_true (by omega)
              have Hn := hid (Hbad.out (fun h => h4 h.2))
              clear h3 h4
              go_wp2
              go_ret
              exact ⟨⟨true, rfl, fun h => (by cases h), fun _ => Hn.out⟩, Hb0.out⟩
          · have d1 : decide ((10 : Int) < (d.path.length : Int)) = true := decide_eq_true (by omega)
            have Hn := hid (Hbad.out (fun h => h3 h.1))
            clear h3
            go_wp2
            go_ret
            exact ⟨⟨true, rfl, fun h => (by cases h), fun _ => Hn.out⟩, Hb0.out⟩
        · obtain rfl : k = ds.length := by omega
          have Hd := hid (show ∀ d ∈ ds, d.path.length ≤ 10 ∧ d.sig.length ≤ 17000 by have := Htk.out; rw [List.take_length] at this; exact this)
          clear hlt Htk
          by_cases h20 : x.entries.length ≤ 20
          · have d1 : decide ((20 : Int) < (x.entries.length : Int)) = false := decide_eq_false (by omega)
            by_cases h80 : x.proof.length ≤ 80
            · have d2 : decide ((80 : Int) < (x.proof.length : Int)) = false := decide_eq_false (by omega)
              by_cases h3 : ds.length ≤ 3
              · have d3 : decide ((3 : Int) < (ds.length : Int)) = false := decide_eq_false (by omega)
                have HF := hid (show Lean17 x ds from ⟨h20, He.out, h3, Hd.out, h80⟩)
                clear h20 h80 h3
                go_wp2
                go_ret
                exact ⟨⟨false, rfl, fun _ => HF.out, fun h => by cases h⟩, Hb0.out⟩
              · have d3 : decide ((3 : Int) < (ds.length : Int)) = true := decide_eq_true (by omega)
                have Hn := hid (show ¬ Lean17 x ds from fun hL => h3 hL.h1)
                clear h20 h80 h3
                go_wp2
                go_ret
                exact ⟨⟨true, rfl, fun h => (by cases h), fun _ => Hn.out⟩, Hb0.out⟩
            · have d2 : decide ((80 : Int) < (x.proof.length : Int)) = true := decide_eq_true (by omega)
              have Hn := hid (show ¬ Lean17 x ds from fun hL => h80 hL.p1)
              clear h20 h80
              go_wp2
              go_ret
              exact ⟨⟨true, rfl, fun h => (by cases h), fun _ => Hn.out⟩, Hb0.out⟩
          · have d1 : decide ((20 : Int) < (x.entries.length : Int)) = true := decide_eq_true (by omega)
            have Hn := hid (show ¬ Lean17 x ds from fun hL => h20 hL.e1)
            clear h20
            go_wp2
            go_ret
            exact ⟨⟨true, rfl, fun h => (by cases h), fun _ => Hn.out⟩, Hb0.out⟩
def greatOf (x : RpK) (ds : List Sg) : Bool := !(decide (x.entries.length ≤ 20) && x.entries.all (fun t => decide (t.length ≤ 300)) && decide (ds.length ≤ 3) && ds.all (fun d => decide (d.path.length ≤ 10) && decide (d.sig.length ≤ 17000)) && decide (x.proof.length ≤ 80))
theorem greatOf_iff (x : RpK) (ds : List Sg) : greatOf x ds = false ↔ Lean17 x ds := by
  unfold greatOf
  simp only [Bool.not_eq_false', Bool.and_eq_true, decide_eq_true_eq, List.all_eq_true]
  constructor
  · rintro ⟨⟨⟨⟨a, b⟩, c⟩, d⟩, e⟩
    exact ⟨a, b, c, d, e⟩
  · rintro ⟨a, b, c, d, e⟩
    exact ⟨⟨⟨⟨a, b⟩, c⟩, d⟩, e⟩
theorem great17_det (x : RpK) (vh ve vp : Value) (ds : List Sg) (w : World) (hx : RpRaw w x vh ve vp ds) :
    Calls Try.prog 22 #[.agg (rpC x vh ve vp)] w fun e w' => e = .returned (.bool (greatOf x ds)) ∧ Below w.heap.size w w' :=
  (great17_any x vh ve vp ds w hx).mono fun e w' ⟨⟨b, he, h1, h2⟩, hb⟩ => by
    refine ⟨?_, hb⟩
    rw [he]
    congr 2
    cases b with
    | false => exact ((greatOf_iff x ds).2 (h1 rfl)).symm
    | true =>
      cases hg : greatOf x ds with
      | true => rfl
      | false => exact absurd ((greatOf_iff x ds).1 hg) (h2 rfl)
end Go.Proofs.Ytjpnlnbpaecciaa
