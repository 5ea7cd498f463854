/- speculumlaw12.Row -/
import Derived.Test.YtchpoggegdocpaaDoorFrameStands
set_option maxRecDepth 100000
namespace Go.Proofs.YtchpoggegdocpaaDoor
open Go.RowKit Go.Spec
theorem Tryd.infoInt : (Tryd.prog.info? 3).map (fun i => (i.zero, i.size, i.bytes)) = some (some (.int .i64 0), 1, 8) := by kernel_rfl
def icell (x : Nat) : Value := .int .i64 (x : Int)
theorem icell_one (l : List Nat) : ∀ u ∈ l.map icell, u.oneCell' = true := by
  intro u hu; simp at hu; obtain ⟨b, _, rfl⟩ := hu; rfl
/-- where the first frames end -/
def endsTo (ls : List (List UInt8)) (k : Nat) : List Nat := (List.range (k + 1)).map (endsL ls)
theorem endsTo_len (ls : List (List UInt8)) (k : Nat) : (endsTo ls k).length = k + 1 := by simp [endsTo]
theorem endsTo_next (ls : List (List UInt8)) (k : Nat) : endsTo ls (k + 1) = endsTo ls k ++ [endsL ls (k + 1)] := by simp [endsTo, List.range_succ]
theorem endsTo_get (ls : List (List UInt8)) (k j : Nat) (h : j ≤ k) : (endsTo ls k)[j]? = some (endsL ls j) := by
  unfold endsTo
  rw [List.getElem?_map, List.getElem?_range (by omega)]; rfl
def rowOk (ls : List (List UInt8)) : Prop := ls.length ≤ 20 ∧ ∀ l ∈ ls, l.length ≤ 500
theorem frames_le (ls : List (List UInt8)) (h : ∀ l ∈ ls, l.length ≤ 500) : (framesL ls).length ≤ ls.length * 512 := by
  induction ls with
  | nil => simp [framesL]
  | cons a l ih =>
    rw [framesL_cons, List.length_append, frameL_len, List.length_cons]
    have h1 := h a List.mem_cons_self
    have h2 := ih (fun x hx => h x (List.mem_cons_of_mem _ hx))
    omega
def RowNo (ls : List (List UInt8)) (w : World) (e : Ending) (w' : World) : Prop := ¬ rowOk ls ∧ e = .returned (.tuple #[sv [], .slice none 0 0, .bool false]) ∧ Below w.heap.size w w'
def RowYes (ls : List (List UInt8)) (w : World) (e : Ending) (w' : World) : Prop := rowOk ls ∧ (∃ v, e = .returned (.tuple #[sv (framesL ls), v, .bool true]) ∧ w'.ownsRow w.heap.size 3 1 v (ls.length + 1) ((endsTo ls ls.length).map icell)) ∧ Below w.heap.size w w'
def RowOut (ls : List (List UInt8)) (w : World) (e : Ending) (w' : World) : Prop := RowNo ls w e w' ∨ RowYes ls w e w'
set_option maxHeartbeats 2000000 in
theorem row_any (v : Value) (ls : List (List UInt8)) (w : World) (hS : StrsAt w v ls) (hl : ls.length ≤ 9223372036854775807) :
    Calls Tryd.prog 14 #[v] w (RowOut ls w) := by
  obtain ⟨a, cap, rfl, hcap⟩ := hS.form
  have HS := hid hS; clear hS
  obtain ⟨i0, hi, hz0, hz1, hz2⟩ := info_parts Tryd.infoInt
  by_cases h20 : 20 < ls.length
  · have hd : decide ((20 : Int) < (ls.length : Int)) = true := by simp; omega
    have Hno := hid (show ¬ rowOk ls from fun h => by have := h.1; omega)
    clear h20
    go_enter Tryd.func14, Tryd.ntmps14
    go_wp2
    go_ret3
    exact .inl ⟨Hno.out, rfl, Below.refl _ _⟩
  · have hd : decide ((20 : Int) < (ls.length : Int)) = false := by simp; omega
    have hl20 : ls.length ≤ 20 := by omega
    clear h20
    go_enter Tryd.func14, Tryd.ntmps14
    go_wp2
    go_loopw [5, 6, 7] (fun t5 t6 t7 wr => ∃ k : Nat, k ≤ ls.length ∧ t7 = .int .i64 (k : Int) ∧ t5 = sv (framesL (ls.take k)) ∧ wr.ownsRow w.heap.size 3 1 t6 (k + 1) ((endsTo ls k).map icell) ∧ (∀ l ∈ ls.take k, l.length ≤ 500) ∧ Below w.heap.size w wr) (fun _ _ t7 _ => ls.length - (intOf t7).toNat)
    case atStart => exact ⟨0, by omega, rfl, rfl, by simpa [endsTo, ends_zero, icell] using ownsRow_lit (w := w) (base := w.heap.size) (e := 3) (icell 0) (Nat.le_refl _), by simp, (Below.refl _ _).alloc (Nat.le_refl _) _⟩
    case round =>
      obtain ⟨k, hk, rfl, rfl, hown, hall, hb⟩ := hrel
      have Hall := hid hall; clear hall
      have hfl := frames_le (ls.take k) Hall.out
      have htl : (ls.take k).length ≤ 20 := by rw [List.length_take]; omega
      by_cases hlt : k < ls.length
      · have hd1 : decide (k < ls.length) = true := by simpa using hlt
        obtain ⟨b, o, rfl, hbl, hcell⟩ := (HS.out.below hb).at hlt
        have hkI : (k : Int) < (ls.length : Int) := by omega
        have hts := hid (show ls.take (k + 1) = ls.take k ++ [ls[k]] from List.take_succ_eq_append_getElem hlt)
        have Hen := hid (show endsL ls (k + 1) = (framesL (ls.take k ++ [ls[k]])).length by unfold endsL; rw [hts.out])
        have Hmem := hid (List.getElem_mem hlt)
        generalize ls[k] = x at *
        by_cases h5 : 500 < x.length
        · have hd2 : decide ((500 : Int) < (x.length : Int)) = true := by simp; omega
          have Hno := hid (show ¬ rowOk ls from fun h => by have := h.2 x Hmem.out; omega)
          clear h5 hfl htl
          go_wp2
          go_ret3
          exact .inl ⟨Hno.out, rfl, hb⟩
        · have hd2 : decide ((500 : Int) < (x.length : Int)) = false := by simp; omega
          have P := hid (rfput_any x wr (by omega))
          have Hfr := hid (framesL_snoc x (ls.take k))
          have hflx := frameL_len x
          have hx5 : x.length ≤ 500 := by omega
          have hFl : (framesL (ls.take k)).length ≤ 10240 := by omega
          have hFx : (frameL x).length ≤ 512 := by omega
          have Hen2 := hid (show endsL ls (k + 1) = (framesL (ls.take k)).length + (frameL x).length by rw [Hen.out, framesL_snoc, List.length_append])
          clear h5 hfl htl hflx
          generalize framesL (ls.take k) = G at *
          generalize frameL x = F at *
          go_upto_region 11 with (go_at_call 12; refine P.out.mono ?_; rintro e w2 ⟨rfl, hb2⟩)
          have hown2 := ownsRow_below hown hb2
          have hbw := bth hb hb2
          clear hown hb hb2 hcell
          go_wp2_with (at_builtin; go_must (refine wpList_app rfl _ _ 29 rfl w.heap.size 3 i0 (.int .i64 0) 1 8 Tryd.underlying29 hi hz0 hz1 hz2 rfl (by decide) _ (k + 1) ((endsTo ls k).map icell) rfl ?c1 ⟨w2.heap.size, 0, none⟩ 1 1 [icell (G.length + F.length)] rfl rfl ?c3 ?c4 ?c5 ?c6 ?c7 ?_))
          case c1 => exact hown2.alloc _
          case c3 =>
            intro j u hj
            exact row_alloc (w := w2) (cs := #[icell (G.length + F.length)]) j u hj
          case c4 => exact icell_one [G.length + F.length]
          case c5 => unfold maxLen; omega
          case c6 => omega
          case c7 => have := hbw.size; simp; omega
          intro v' w5 hown' hgrow hat
          go_wp2
          go_roundw
          case rel =>
            refine ⟨k + 1, by omega, by go_num, by rw [hts.out, Hfr.out], ?_, ?_, ?_⟩
            · rw [endsTo_next, List.map_append, Hen2.out]; exact hown'
            · rw [hts.out]; intro l hl; rcases List.mem_append.mp hl with h | h
              · exact Hall.out l h
              · rw [List.mem_singleton.mp h]; exact hx5
            · exact (hbw.alloc hbw.size _).grown hgrow (by have := hbw.size; simp; omega) (fun q hq => (hown2.lt q hq).1)
          case measure => simp [intOf]; omega
      · obtain rfl : k = ls.length := by omega
        have hd1 : decide (ls.length < ls.length) = false := by simp
        have Hok := hid (show rowOk ls from ⟨hl20, by have := Hall.out; rwa [List.take_length] at this⟩)
        clear hfl htl
        obtain ⟨av, cv, rfl, hcv⟩ := ownsRow_form hown
        go_wp2
        go_ret3
        exact .inr ⟨Hok.out, ⟨.slice av (ls.length + 1) cv, by rw [List.take_length]; rfl, hown⟩, hb⟩
end Go.Proofs.YtchpoggegdocpaaDoor
