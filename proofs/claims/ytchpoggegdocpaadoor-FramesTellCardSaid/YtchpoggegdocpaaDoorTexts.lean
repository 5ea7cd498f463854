/- speculumlaw12.Texts; slices of strings -/
import Derived.Test.YtchpoggegdocpaaDoorFrameGet
import Derived.Test.YtchpoggegdocpaaDoorSlices
set_option maxRecDepth 100000
namespace Go.Proofs.YtchpoggegdocpaaDoor
open Go.RowKit Go.Spec
def scells (ls : List (List UInt8)) : List (List Value) := ls.map fun l => [sv l]
theorem scells_length (ls : List (List UInt8)) : (scells ls).length = ls.length := by simp [scells]
/-- a slice of strings, read as a list -/
def StrsAt (w : World) (v : Value) (ls : List (List UInt8)) : Prop := SlAt w 1 v (scells ls)
theorem StrsAt.below {w w' : World} {v : Value} {ls : List (List UInt8)} (h : StrsAt w v ls) (hb : Below w.heap.size w w') : StrsAt w' v ls := SlAt.below h hb (Nat.le_refl _)
theorem StrsAt.form {w : World} {v : Value} {ls : List (List UInt8)} (h : StrsAt w v ls) : ∃ a cap, v = .slice a ls.length cap ∧ ls.length ≤ cap := by
  have := SlAt.form h
  rwa [scells_length] at this
theorem StrsAt.at {w : World} {a : Option Addr} {n cap : Nat} {ls : List (List UInt8)} (h : StrsAt w (.slice a n cap) ls) {i : Nat} (hi : i < ls.length) :
    ∃ b o, a = some ⟨b, o, none⟩ ∧ b < w.heap.size ∧ w.cell? ⟨b, o + i, none⟩ = some (sv ls[i]) := by
  obtain ⟨b, o, e, h1, h2, h3⟩ := SlAt.at h (i := i) (cs := [sv ls[i]]) (by simp [scells, hi])
  have := h3 0 (sv ls[i]) rfl
  rw [Addr.add_lit] at this
  exact ⟨b, o, e, h1, by rw [Nat.mul_one, Nat.add_zero] at this; exact this⟩
theorem StrsAt.of_owns {w : World} {base e : Nat} {v : Value} {ls : List (List UInt8)} (h : w.ownsRow base e 1 v ls.length (ls.map sv)) : StrsAt w v ls := by
  rcases h.2 with ⟨rfl, h0⟩ | ⟨g, cap, cur, rfl, hb, hg, hnc, hcm, _⟩
  · obtain rfl : ls = [] := List.eq_nil_of_length_eq_zero h0
    exact ⟨none, 0, rfl, Nat.le_refl _, fun _ h => by simp [scells] at h, fun i cs h => by simp [scells] at h⟩
  · refine ⟨_, cap, by rw [scells_length], by rw [scells_length]; exact hnc, ?_, fun i cs hi => ⟨g, 0, rfl, (Array.getElem?_eq_some_iff.1 hg).1, fun j u hj => ?_⟩⟩
    · intro cs hcs
      simp only [scells, List.mem_map] at hcs
      obtain ⟨l, _, rfl⟩ := hcs
      rfl
    · have hi' : i < ls.length := by
        have := (List.getElem?_eq_some_iff.1 hi).1
        rwa [scells_length] at this
      simp only [scells, List.getElem?_map, List.getElem?_eq_getElem hi', Option.map_some] at hi
      injection hi with hi
      subst hi
      rcases j with _ | j
      · simp at hj
        subst hj
        have hx := h.cells (g := g) rfl i (sv ls[i]) (by simp [hi'])
        rw [Addr.add_lit] at hx
        rw [show 0 + i * 1 + 0 = 0 + i by omega]
        exact hx
      · simp at hj
theorem Blk.strs {w : World} {g t : Nat} {ls : List (List UInt8)} (h : Blk w g (ls.map sv).toArray t) (hn : ls.length ≤ maxLen) : StrsAt w (.slice (some ⟨g, 0, none⟩) ls.length ls.length) ls := by
  have := Blk.owns h (base := 0) (size := 1) (n := ls.length) (Nat.zero_le _) hn (by simp)
  exact StrsAt.of_owns (by simpa using this)
set_option maxHeartbeats 1000000 in
theorem texts_any (va vb : Value) (ls1 ls2 : List (List UInt8)) (w : World) (ha : StrsAt w va ls1) (hb : StrsAt w vb ls2) (hn : ls1.length ≤ 9223372036854775807) (hn2 : ls2.length ≤ 9223372036854775807) :
    Calls Tryd.prog 16 #[va, vb] w fun e w' => e = .returned (.bool (ls1 == ls2)) ∧ Below w.heap.size w w' := by
  obtain ⟨a, cap, rfl, hcap⟩ := ha.form
  obtain ⟨b, cap2, rfl, hcap2⟩ := hb.form
  have Ha := hid ha; have Hb := hid hb
  clear ha hb
  by_cases hl : ls1.length = ls2.length
  · have hd : (((ls1.length : Nat) : Int) != (ls2.length : Int)) = false := by simp [hl]
    rw [hl] at hd hcap hn ⊢
    have HL := hid hl
    rw [hl] at Ha
    clear hl
    go_enter Tryd.func16, Tryd.ntmps16
    go_wp2
    go_loopw [5] (fun i wr => ∃ k : Nat, k ≤ ls2.length ∧ i = .int .i64 k ∧ ls1.take k = ls2.take k ∧ Below w.heap.size w wr) (fun i _ => ls2.length - (intOf i).toNat)
    case atStart => exact ⟨0, by omega, rfl, by simp, Below.refl _ _⟩
    case round =>
      obtain ⟨k, hk, rfl, htk, hbw⟩ := hrel
      have Htk := hid htk
      clear htk
      by_cases hlt : k < ls2.length
      · have hlt2 : k < ls1.length := by rw [HL.out]; exact hlt
        obtain ⟨b1, o1, rfl, hbl1, hcell1⟩ := (Ha.out.below hbw).at hlt2
        obtain ⟨b2, o2, rfl, hbl2, hcell2⟩ := (Hb.out.below hbw).at hlt
        have hta := hid (show ls1.take (k + 1) = ls1.take k ++ [ls1[k]] from List.take_succ_eq_append_getElem hlt2)
        have htb := hid (show ls2.take (k + 1) = ls2.take k ++ [ls2[k]] from List.take_succ_eq_append_getElem hlt)
        have hne := hid (show ls1[k] ≠ ls2[k] → ls1 ≠ ls2 from fun h h2 => h (by subst h2; rfl))
        generalize ls1[k] = x at *
        generalize ls2[k] = y at *
        have Hc1 := hid (fun q : Later wr => (lat_cell q b1 (o1 + k) hbl1).trans hcell1)
        have Hc2 := hid (fun q : Later wr => (lat_cell q b2 (o2 + k) hbl2).trans hcell2)
        clear hcell1 hcell2
        have hkI : (k : Int) < (ls2.length : Int) := by omega
        by_cases hxy : x = y
        · have hq : (x == y) = true := by simpa using hxy
          have Hxy := hid hxy
          clear hxy
          go_wp2_with fail
          refine wp_region_later (by kernel_rfl) (by kernel_rfl) ?_
          repeat (first
            | (refine wpQuiet_load_one rfl 9 _ rfl ⟨b1, o1 + k, none⟩ rfl (sv x) _ (by rintro _ ⟨q, rfl⟩; exact Hc1.out q) Tryd.underlying9 rfl ?_; simp only [Act.put, List.setIfInBounds_toArray, List.set_cons_succ, List.set_cons_zero])
            | (refine wpQuiet_load_one rfl 9 _ rfl ⟨b2, o2 + k, none⟩ rfl (sv y) _ (by rintro _ ⟨q, rfl⟩; exact Hc2.out q) Tryd.underlying9 rfl ?_; simp only [Act.put, List.setIfInBounds_toArray, List.set_cons_succ, List.set_cons_zero])
            | go_big_quiet_step (fail))
          refine wpQuiet_nil ?_
          rintro _ ⟨q3, rfl⟩
          have hb3 := lat_below q3
          generalize lat q3 = w3 at *
          go_wp2
          go_roundw
          case rel => exact ⟨k + 1, by omega, by go_num, by rw [hta.out, htb.out, Htk.out, Hxy.out], bth hbw hb3⟩
          case measure => simp [intOf]; omega
        · have hq : (x == y) = false := by simpa using hxy
          have Hfin := hid (show (ls1 == ls2) = false by simpa using hne.out hxy)
          clear hxy
          go_wp2_with fail
          refine wp_region_later (by kernel_rfl) (by kernel_rfl) ?_
          repeat (first
            | (refine wpQuiet_load_one rfl 9 _ rfl ⟨b1, o1 + k, none⟩ rfl (sv x) _ (by rintro _ ⟨q, rfl⟩; exact Hc1.out q) Tryd.underlying9 rfl ?_; simp only [Act.put, List.setIfInBounds_toArray, List.set_cons_succ, List.set_cons_zero])
            | (refine wpQuiet_load_one rfl 9 _ rfl ⟨b2, o2 + k, none⟩ rfl (sv y) _ (by rintro _ ⟨q, rfl⟩; exact Hc2.out q) Tryd.underlying9 rfl ?_; simp only [Act.put, List.setIfInBounds_toArray, List.set_cons_succ, List.set_cons_zero])
            | go_big_quiet_step (fail))
          refine wpQuiet_nil ?_
          rintro _ ⟨q3, rfl⟩
          have hb3 := lat_below q3
          generalize lat q3 = w3 at *
          go_wp2
          go_ret
          exact ⟨by rw [Hfin.out]; rfl, bth hbw hb3⟩
      · obtain rfl : k = ls2.length := by omega
        have Hfin := hid (show (ls1 == ls2) = true by
          have := Htk.out
          rw [List.take_length, ← HL.out, List.take_length] at this
          simpa using this)
        go_wp2
        go_ret
        exact ⟨by rw [Hfin.out]; rfl, hbw⟩
  · have hd : (((ls1.length : Nat) : Int) != (ls2.length : Int)) = true := by simp; omega
    have Hfin := hid (show (ls1 == ls2) = false by simpa using fun h : ls1 = ls2 => hl (by rw [h]))
    clear hl
    go_enter Tryd.func16, Tryd.ntmps16
    go_wp2
    go_ret
    exact ⟨by rw [Hfin.out]; rfl, Below.refl _ _⟩
end Go.Proofs.YtchpoggegdocpaaDoor
