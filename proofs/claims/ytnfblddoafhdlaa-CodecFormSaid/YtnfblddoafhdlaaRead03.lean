import Derived.Test.YtnfblddoafhdlaaGen03
set_option maxRecDepth 100000
namespace Go.Proofs.Ytnfblddoafhdlaa
open Go.RowKit Go.Spec
/-- what is known of a hash's block in a later world -/
theorem blk {W wk : World} (h : Below W.heap.size W wk) {g : Nat} {o : Obj} (hg : W.heap[g]? = some o) : wk.heap[g]? = some o :=
  (h.block g (Array.getElem?_eq_some_iff.1 hg).1).trans hg
theorem SlAt.bch {w w1 w' : World} {v : Value} {hs : List (List UInt8)} (h : SlAt w 32 v (hcs hs)) (hb : Below w1.heap.size w1 w') (he : w1 = w) : SlAt w' 32 v (hcs hs) := by
  subst he; exact h.below hb (Nat.le_refl _)
set_option maxHeartbeats 2000000 in
theorem read_law (l : List UInt8) (w : World) (hl : l.length ≤ 9223372036854775807) :
    Calls Try.prog 4 #[sv l] w fun e w' => e = .returned (.bool true) ∧ Below w.heap.size w w' := by
  have HB := Below.refl w.heap.size w
  by_cases h1 : 3000 < l.length
  · have hd : decide ((3000 : Int) < (l.length : Int)) = true := by simp; omega
    clear h1
    go_enter Try.func4, Try.ntmps4
    go_wp2_with (go_at_call 8; refine (coded_any _).mono ?_; rintro e w1 ⟨rfl, hb⟩; replace HB := bch HB hb; clear hb)
    go_ret
    exact ⟨rfl, HB⟩
  · have hd : decide ((3000 : Int) < (l.length : Int)) = false := by simp; omega
    clear h1
    have Hx := hid (unT_len l)
    have Hsx := hid (show (Try.prog.info? 27).map (·.size) = some (unT l).length by rw [unT_len]; exact Try.sizeHash)
    have Hsx2 := hid (show (Try.prog.info? 27).map (·.size) = some (hc (unT l)).size by rw [hc_size, unT_len]; exact Try.sizeHash)
    have hx := unT_len l
    have hs5 := Try.sizeU8
    have hge := Try.guardHash
    have hul := us_le l
    go_enter Try.func4, Try.ntmps4
    go_wp2_with (first
      | (go_at_call 17; refine (read_gen l _ hl).mono ?_; rintro e w1 ⟨rfl, hb⟩; replace HB := bch HB hb; clear hb)
      | (go_at_call 18; refine (rread_gen l _ hl).mono ?_; rintro e w2 ⟨rfl, hb⟩; replace HB := bch HB hb; clear hb)
      | (go_at_call 19; refine (cut_gen l _ hl).mono ?_; rintro e w3 ⟨rfl, hb⟩; replace HB := bch HB hb; clear hb)
      | (go_at_call 20; refine (rcut_gen l _ hl).mono ?_; rintro e w4 ⟨rfl, hb⟩; replace HB := bch HB hb; clear hb)
      | (go_at_call 21; refine (unhash_gen l _ hl).mono ?_; rintro e w5 ⟨rfl, hb⟩; replace HB := bch HB hb; clear hb)
      | ((with_reducible show wpList _ _ _ ({ dst := _, op := Op.store _ _ _, type := _, pos := _, after := _, guard := _ } :: _) _ (World.alloc w5 _))
         refine wpList_store_new (w := w5) rfl 27 _ _ rfl rfl (unT l) rfl _ 27 (by rw [Hx.out]; rfl) Hsx.out ?_
         replace HB := Below.alloc HB HB.size (.cells (hc (unT l)) 27)
         have HN := Below.refl (w5.alloc (.cells (hc (unT l)) 27)).heap.size (w5.alloc (.cells (hc (unT l)) 27)))
      | (go_at_call 22; refine (runhash_gen l _ hl).mono ?_; rintro e w6 ⟨rfl, hb⟩; replace HB := bch HB hb; replace HN := bch HN hb; clear hb)
      | ((with_reducible show wpList _ _ _ ({ dst := _, op := Op.store _ _ _, type := _, pos := _, after := _, guard := _ } :: _) _ (World.alloc w6 _))
         refine wpList_store_new (w := w6) rfl 27 _ _ rfl rfl (unT l) rfl _ 27 (by rw [Hx.out]; rfl) Hsx.out ?_
         replace HB := Below.alloc HB HB.size (.cells (hc (unT l)) 27)
         replace HN := Below.alloc HN HN.size (.cells (hc (unT l)) 27)
         have HQ := Below.refl (w6.alloc (.cells (hc (unT l)) 27)).heap.size (w6.alloc (.cells (hc (unT l)) 27)))
      | (go_at_call 23; refine (unhashes_gen l _ hl).mono ?_; rintro e w7 ⟨a1, cap1, rfl, hug⟩; replace HB := bch HB hug.below; replace HN := bch HN hug.below; replace HQ := bch HQ hug.below; have HU1 := hug.at_; clear hug)
      | (go_at_call 24; refine (runhashes_gen l _ hl).mono ?_; rintro e w8 ⟨a2, cap2, rfl, hug⟩; replace HB := bch HB hug.below; replace HN := bch HN hug.below; replace HQ := bch HQ hug.below; replace HU1 := HU1.below hug.below (Nat.le_refl _); have HU2 := hug.at_; clear hug)
      | ((with_reducible show wpList _ _ _ ({ dst := _, op := Op.load 27 _, type := _, pos := _, after := _, guard := _ } :: _) _ _); refine wpList_load_rowG rfl 27 _ rfl w5.heap.size rfl 27 (hc (unT l)) (0, 0) _ (blk HN (heap_alloc_new _ _)) Try.underlying27 rfl Hsx2.out ?_)
      | ((with_reducible show wpList _ _ _ ({ dst := _, op := Op.load 27 _, type := _, pos := _, after := _, guard := _ } :: _) _ _); refine wpList_load_rowG rfl 27 _ rfl w6.heap.size rfl 27 (hc (unT l)) (0, 0) _ (blk HQ (heap_alloc_new _ _)) Try.underlying27 rfl Hsx2.out ?_)
      | (go_at_call 25; refine (same_any _ _ _ _ _ HU1 HU2 (by omega) (by omega)).mono ?_; rintro e w9 ⟨rfl, hb⟩; replace HB := bch HB hb; clear hb)
      | (go_at_call 8; refine (coded_any _).mono ?_; rintro e w1 ⟨rfl, hb⟩; replace HB := bch HB hb; clear hb))
    go_ret
    exact ⟨rfl, HB⟩
end Go.Proofs.Ytnfblddoafhdlaa
