/- the law ShaHex: the walk -/
import Derived.Test.YtdllaenbkfajdaaDoorShaLaw02
import Derived.Test.YtdllaenbkfajdaaDoorQuiet
set_option maxRecDepth 100000
namespace Go.Proofs.YtdllaenbkfajdaaDoor
open Go.RowKit Go.Spec
theorem Tryd.guardHash : Tryd.prog.eqGuardType Tryd.prog.depth 25 = false := by kernel_rfl
set_option maxHeartbeats 2000000 in
theorem shaHex_law (h l : List UInt8) (w : World) (hh : h.length = 32) (hl : l.length ≤ 9223372036854775807) (hG : ShaG w) :
    Calls Tryd.prog 7 #[hv h, sv l] w fun e w' => e = .returned (.bool true) ∧ Below w.heap.size w w' := by
  have HG := hid hG; clear hG
  have HB0 : Below w.heap.size w (w.alloc (.cells (hc h) 25)) := (Below.refl _ w).alloc (Nat.le_refl _) _
  have HB := HB0
  have hBh := Blk.new w (hc h) 25
  have Hh := hid hh; clear hh
  by_cases h1 : 200 < l.length
  · have hd : decide ((200 : Int) < (l.length : Int)) = true := by simp; omega
    clear h1
    go_enter Tryd.func7, Tryd.ntmps7
    go_wp2_with (go_at_call 22; refine (hashed_any _ (HG.out.later HB)).mono ?_; rintro e w1 ⟨rfl, hb⟩; replace HB := bth HB hb; clear hb)
    go_ret
    exact ⟨rfl, HB⟩
  · have hd : decide ((200 : Int) < (l.length : Int)) = false := by simp; omega
    have hl2 : l.length ≤ 1000000000 := by omega
    clear h1
    have Hs1 := hid (show (Tryd.prog.info? 25).map (·.size) = some (hc h).size by rw [hc_size, Hh.out]; exact Tryd.sizeHash)
    have Hs2 := hid (show (Tryd.prog.info? 25).map (·.size) = some (hc (prH l)).size by rw [hc_size, prH_len]; exact Tryd.sizeHash)
    have Hl2 := hid (show (hc (prH l)).size = (hc zero32).size by rw [hc_size, prH_len]; rfl)
    have hp32 := prH_len l
    have hs5 := Tryd.sizeU8
    have hge := Tryd.guardHash
    go_enter Tryd.func7, Tryd.ntmps7
    go_wp2_with fail
    refine (parse_any l _ hl2).mono ?_
    rintro e w1 ⟨rfl, hb⟩
    replace HB := bth HB hb
    replace hBh := hBh.later hb
    clear hb
    go_wp2_with ((with_reducible show wpList _ _ _ ({ dst := _, op := Op.store _ _ _, type := _, pos := _, after := _, guard := _ } :: _) _ _); refine wpList_store_blk rfl 25 _ _ rfl w1.heap.size rfl (hc (prH l)) rfl _ _ (Blk.new w1 (hc zero32) 25) Hl2.out Hs2.out (hc_row_one _) ?_)
    have hB5 := (Blk.new w1 (hc zero32) 25).setRow (cs' := hc (prH l))
    have hBh2 := (hBh.alloc (.cells (hc zero32) 25)).setRow_ne (k := w1.heap.size) (cs' := hc (prH l)) (by have := hBh.lt; omega)
    replace HB := (HB.alloc HB.size (.cells (hc zero32) 25)).setRow HB.size (hc (prH l))
    refine (rparse_any l _ hl2).mono ?_
    rintro e w2 ⟨rfl, hb⟩
    replace HB := bth HB hb
    replace hB5 := hB5.later hb
    replace hBh2 := hBh2.later hb
    clear hb
    go_wp2_with ((with_reducible show wpList _ _ _ ({ dst := _, op := Op.store _ _ _, type := _, pos := _, after := _, guard := _ } :: _) _ _); refine wpList_store_blk rfl 25 _ _ rfl w2.heap.size rfl (hc (prH l)) rfl _ _ (Blk.new w2 (hc zero32) 25) Hl2.out Hs2.out (hc_row_one _) ?_)
    have hB7 := (Blk.new w2 (hc zero32) 25).setRow (cs' := hc (prH l))
    have hBh3 := (hBh2.alloc (.cells (hc zero32) 25)).setRow_ne (k := w2.heap.size) (cs' := hc (prH l)) (by have := hBh2.lt; omega)
    have hB53 := (hB5.alloc (.cells (hc zero32) 25)).setRow_ne (k := w2.heap.size) (cs' := hc (prH l)) (by have := hB5.lt; omega)
    replace HB := (HB.alloc HB.size (.cells (hc zero32) 25)).setRow HB.size (hc (prH l))
    clear hB5 hBh2
    have HGb := hid (HG.out.later HB)
    refine wp_region_later (by kernel_rfl) (by kernel_rfl) ?_
    repeat (first
      | ((with_reducible show wpQuiet _ _ _ _ ({ dst := _, op := Op.load _ _, type := _, pos := _, after := _, guard := _ } :: _) _); first
          | (refine wpQuiet_load_later rfl 25 _ rfl w.heap.size rfl (hc h) _ _ hBh3 Tryd.underlying25 rfl Hs1.out ?_; simp only [Act.put, List.setIfInBounds_toArray, List.set_cons_succ, List.set_cons_zero])
          | (refine wpQuiet_load_later rfl 25 _ rfl w1.heap.size rfl (hc (prH l)) _ _ hB53 Tryd.underlying25 rfl Hs2.out ?_; simp only [Act.put, List.setIfInBounds_toArray, List.set_cons_succ, List.set_cons_zero])
          | (refine wpQuiet_load_later rfl 25 _ rfl w2.heap.size rfl (hc (prH l)) _ _ hB7 Tryd.underlying25 rfl Hs2.out ?_; simp only [Act.put, List.setIfInBounds_toArray, List.set_cons_succ, List.set_cons_zero]))
      | go_big_quiet_step ((first | (go_at_call 27; exact calls_later (hex_any h _ Hh.out)) | (go_at_call 28; exact calls_later (rhex_any h _ Hh.out)) | (go_at_call 22; exact calls_later (hashed_any _ (HGb.out.later (lat_below _)))))))
    refine wpQuiet_nil ?_
    rintro _ ⟨q, rfl⟩
    have hb3 := lat_below q
    generalize lat q = w4 at *
    go_wp2
    go_ret
    exact ⟨rfl, bth HB hb3⟩
end Go.Proofs.YtdllaenbkfajdaaDoor
