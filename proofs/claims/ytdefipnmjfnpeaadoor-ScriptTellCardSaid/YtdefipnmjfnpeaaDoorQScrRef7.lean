/- the document's script: words -/
import Derived.Test.YtdefipnmjfnpeaaDoorQScrRef6
import Derived.Laws.OwnMore
set_option maxRecDepth 100000
namespace Go.Proofs.YtdefipnmjfnpeaaDoor
open Go.RowKit Go.Spec
theorem splitF_ne (ws : List (List UInt8)) (c : UInt8) : splitF ws c ≠ [] := by
  unfold splitF; split <;> simp
theorem splitL_ne (s : List UInt8) : ∃ pre u, splitL s = pre ++ [u] := by
  have key : ∀ (l : List UInt8) (ws : List (List UInt8)), ws ≠ [] → l.foldl splitF ws ≠ [] := fun l => by
    induction l with
    | nil => intro ws h; exact h
    | cons c r ih => intro ws _; exact ih _ (splitF_ne ws c)
  have h := key s [[]] (by simp)
  exact ⟨_, _, (List.dropLast_concat_getLast h).symm⟩
theorem splitL_snoc (s : List UInt8) (k : Nat) (c : UInt8) (hc : s[k]? = some c) : splitL (s.take (k + 1)) = splitF (splitL (s.take k)) c := by
  unfold splitL
  rw [List.take_add_one, hc, List.foldl_append]; rfl
theorem split_size (s : List UInt8) (pre : List (List UInt8)) (u : List UInt8) (h : splitL s = pre ++ [u]) : pre.length + u.length ≤ s.length := by
  have key : ∀ (l : List UInt8) (ws : List (List UInt8)), ws ≠ [] → ((l.foldl splitF ws).map List.length).sum + (l.foldl splitF ws).length ≤ (ws.map List.length).sum + ws.length + l.length := fun l => by
    induction l with
    | nil => intro ws _; simp
    | cons c r ih =>
      intro ws hw
      have h1 := ih (splitF ws c) (splitF_ne ws c)
      have h2 : ((splitF ws c).map List.length).sum + (splitF ws c).length ≤ (ws.map List.length).sum + ws.length + 1 := by
        unfold splitF
        split
        · simp; omega
        · rcases List.eq_nil_or_concat ws with rfl | ⟨a, b, rfl⟩
          · exact absurd rfl hw
          · simp [List.concat_eq_append]; omega
      rw [List.foldl_cons, List.length_cons]; omega
  have := key s [[]] (by simp)
  unfold splitL at h
  rw [h] at this
  simp at this
  omega
set_option maxHeartbeats 4000000 in
theorem rwords_any (s : List UInt8) (w : World) (hl : s.length ≤ 1000000000) :
    Calls Tryd.prog 33 #[sv s] w fun e w' => (∃ v, e = .returned v ∧ w'.ownsRow w.heap.size 9 1 v (splitL s).length ((splitL s).map sv)) ∧ Below w.heap.size w w' := by
  obtain ⟨i0, hi0, hz0, hz1, hz2⟩ := info_parts Tryd.infoStr
  have HI0 := hid hi0; clear hi0
  go_enter Tryd.func33, Tryd.ntmps33
  go_upto_region 2 with fail
  refine wp_world (fun W => W.ownsRow w.heap.size 9 1 (.slice (some ⟨w.heap.size, 0, none⟩) 1 1) 1 [sv []] ∧ Below w.heap.size w W) ⟨ownsRow_lit (w := w) (base := w.heap.size) (e := 9) (sv []) (Nat.le_refl _), (Below.refl _ _).alloc (Nat.le_refl _) _⟩ ?_
  rintro y0 ⟨hrow, hb0⟩
  go_upto_region 3 with fail
  go_loopw [3, 4] (fun v i wr => ∃ k : Nat, k ≤ s.length ∧ i = .int .i64 (k : Int) ∧ wr.ownsRow w.heap.size 9 1 v (splitL (s.take k)).length ((splitL (s.take k)).map sv) ∧ Below w.heap.size w wr) (fun _ i _ => s.length - (intOf i).toNat)
  case atStart => exact ⟨0, by omega, rfl, by simpa [splitL] using hrow, hb0⟩
  case round =>
    clear hrow hb0
    obtain ⟨k, hk, rfl, hown, hb⟩ := hrel
    have HB := hid hb; clear hb
    by_cases hlt : k < s.length
    · have hkI : (k : Int) < (s.length : Int) := by omega
      obtain ⟨c, hc⟩ : ∃ c, s[k] = c := ⟨_, rfl⟩
      have hc' : s[k]? = some c := by rw [List.getElem?_eq_getElem hlt, hc]
      obtain ⟨pre, u, hpu⟩ := splitL_ne (s.take k)
      have hsz := split_size (s.take k) pre u hpu
      have hsz2 : pre.length + u.length ≤ 1000000000 := by rw [List.length_take] at hsz; omega
      have hsn := splitL_snoc s k c hc'
      rw [hpu] at hsn hown
      clear hsz hpu hc'
      by_cases h32 : c = 32
      · have HS := hid (show splitL (s.take (k + 1)) = pre ++ [u] ++ [[]] from by rw [hsn]; exact if_pos h32)
        subst h32
        have HO := hid hown
        obtain ⟨n, hn⟩ : ∃ n, (pre ++ [u]).length = n := ⟨_, rfl⟩
        have hn2 : n ≤ 1000000001 := by rw [← hn]; simp; omega
        rw [hn] at HO
        have Hn := hid hn
        clear hn hown hsn
        obtain ⟨xs, hxs⟩ : ∃ xs, (pre ++ [u]).map sv = xs := ⟨_, rfl⟩
        rw [hxs] at HO
        have Hxs := hid hxs; clear hxs
        have hge := fun q hq => (HO.out.lt q hq).1
        go_wp2_with (at_builtin; refine wpList_app rfl _ _ 61 rfl w.heap.size 9 i0 (.string ByteArray.empty) 1 16 Tryd.underlying61 HI0.out hz0 hz1 hz2 rfl (by decide) _ n xs rfl (HO.out.alloc _) ⟨wr.heap.size, 0, none⟩ 1 1 [sv []] rfl rfl ?c2 (by intro u hu; simp at hu; subst hu; rfl) ?c4 ?c5 ?c6 ?_)
        case c2 => exact (Blk.new wr #[sv []] 9).cells
        case c4 => unfold maxLen; omega
        case c5 => omega
        case c6 => have := HB.out.size; simp; omega
        intro v' w6 hown6 hg6 hat6
        have HB6 := hid ((HB.out.alloc HB.out.size (.cells #[sv []] 9)).grown hg6 (HB.out.alloc HB.out.size (.cells #[sv []] 9)).size hge)
        have HO6 := hid hown6
        clear hown6 hg6 hat6 hge
        go_wp2
        go_roundw
        case rel =>
          refine ⟨k + 1, by omega, by go_num, ?_, HB6.out⟩
          rw [HS.out, List.length_append, Hn.out, List.map_append, Hxs.out]
          exact HO6.out
        case measure => simp [intOf]; omega
      · have HS := hid (show splitL (s.take (k + 1)) = pre ++ [u ++ [c]] from by
          rw [hsn]; unfold splitF; rw [if_neg h32, List.dropLast_concat, List.getLastD_concat])
        have hne : ¬ ((c.toNat : Int) = 32) := fun h => h32 (UInt8.toNat.inj (by simp; omega))
        have hne2 : ¬ c.toNat = 32 := fun h => h32 (UInt8.toNat.inj (by simp; omega))
        have hsl : (s.take (k + 1)).drop k = [c] := by
          rw [List.take_succ_eq_append_getElem hlt, hc, List.drop_append_of_le_length (by rw [List.length_take]; omega), List.drop_eq_nil_of_le (by rw [List.length_take]; omega)]
          rfl
        obtain ⟨p, hp⟩ : ∃ p, pre.length = p := ⟨_, rfl⟩
        obtain ⟨n, hn⟩ : ∃ n, p + 1 = n := ⟨_, rfl⟩
        have hl2 : (pre ++ [u]).length = n := by rw [List.length_append, hp]; exact hn
        rw [hl2] at hown
        obtain ⟨g, cap, rfl, hg1, hg2, hg3, _⟩ := ownsRow_some hown (by omega)
        have HO := hid hown
        have hpI : (n : Int) - 1 = (p : Int) := by omega
        have hpn : (p : Int) < (n : Int) := by omega
        have hul : ¬ 9223372036854775807 < u.length + 1 := by omega
        have hp60 : p ≤ 1000000000 := by omega
        obtain ⟨k1, hk1⟩ : ∃ k1, k + 1 = k1 := ⟨_, rfl⟩
        have hk1I : (k : Int) + 1 = (k1 : Int) := by omega
        have hk1l : (k1 : Int) ≤ (s.length : Int) := by omega
        have hkk1 : (k : Int) ≤ (k1 : Int) := by omega
        rw [hk1] at hsl HS
        have hpx : p < n * 1 := by omega
        have Hcell := hid (show ((pre ++ [u]).map sv)[p]? = some (sv u) from by
          rw [List.map_append, List.getElem?_append_right (by rw [List.length_map]; omega), List.length_map, hp, Nat.sub_self]; rfl)
        have Hset := hid (show ((pre ++ [u]).map sv).set p (sv (u ++ [c])) = (pre ++ [u ++ [c]]).map sv from by
          rw [List.map_append, List.map_append, List.set_append_right _ _ (by rw [List.length_map]; omega), List.length_map, hp, Nat.sub_self]; rfl)
        have Hl3 := hid (show (pre ++ [u ++ [c]]).length = n from by rw [List.length_append, hp]; exact hn)
        have QC := hid (fun q : Later wr => show (lat q).cell? ⟨g, p, none⟩ = some (sv u) from ((HO.out.later (lat_below q)).cellAt p hpx).trans Hcell.out)
        have Hk1 := hid hk1
        have Hge := hid hg1
        clear hown hsn h32 hp hn hl2 hk1 hg1 hg2 hg3
        go_upto_region 7 with fail
        refine wp_region_later_tail 17 (by kernel_rfl) (by kernel_rfl) ?_
        simp only [List.take_succ_cons, List.take_zero, List.drop_succ_cons, List.drop_zero]
        repeat (first
          | go_big_quiet_skip
          | (refine wpQuiet_load_one rfl 9 _ rfl ⟨g, p, none⟩ rfl (sv u) _ (by rintro _ ⟨q, rfl⟩; exact QC.out q) Tryd.underlying9 rfl ?_; simp only [Act.put, List.setIfInBounds_toArray, List.set_cons_succ, List.set_cons_zero])
          | (go_big_quiet_want; go_big_quiet_op; first | go_big_quiet_on | (refine ⟨_, fun _ _ => rfl, ?_⟩; go_big_quiet_on)))
        refine wpQuiet_nil ?_
        rintro _ ⟨q6, rfl⟩
        have hb6 := lat_below q6
        generalize lat q6 = w6 at *
        have HO6 := hid (HO.out.later hb6)
        have HB6 := hid (bth HB.out hb6)
        have c6 : w6.cell? ⟨g, p, none⟩ = some (sv u) := (HO6.out.cellAt p hpx).trans Hcell.out
        have f6 : w6.frozen? ⟨g, p, none⟩ = false := HO6.out.frozenAt p
        have HO7 := hid (HO6.out.stored p (sv (u ++ [c])))
        clear hb6
        go_wp2
        go_roundw
        case rel =>
          refine ⟨k1, by omega, by go_num, ?_, HB6.out.setCell (p := ⟨g, p, none⟩) Hge.out _⟩
          rw [HS.out, Hl3.out, ← Hset.out]
          exact HO7.out.1
        case measure => simp [intOf]; have := Hk1.out; omega
    · obtain rfl : k = s.length := by omega
      rw [List.take_length] at hown
      have HO := hid hown; clear hown hlt
      go_wp2_with fail
      go_ret
      exact ⟨⟨_, rfl, HO.out⟩, HB.out⟩
end Go.Proofs.YtdefipnmjfnpeaaDoor
