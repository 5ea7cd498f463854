/- frames.mark, Put, cut -/
import Derived.Test.YtchpoggegdocpaaDoorFrameLaw
import Derived.Test.YtchpoggegdocpaaDoorBsAt
import Derived.Test.YtchpoggegdocpaaDoorShaPad
import Derived.Test.YtchpoggegdocpaaDoorZero
set_option maxRecDepth 100000
namespace Go.Proofs.YtchpoggegdocpaaDoor
open Go.RowKit Go.Spec
theorem Tryd.sizeU8f : (Tryd.prog.info? 5).map (·.size) = some 1 := by kernel_rfl
set_option maxHeartbeats 1000000 in
theorem mark_any (p : List UInt8) (w : World) (hl : p.length ≤ 1000000) (hG : ShaG w) :
    Calls Tryd.prog 30 #[sv p] w fun e w' => e = .returned (sv (markL p)) ∧ Below w.heap.size w w' := by
  have HG := hid hG; clear hG
  have Hp := hid (fun w0 => put_any p.length 4 w0 (by omega) (by omega) (by omega))
  have Hs := hid (fun w0 h0 => sum_any (beL p.length 4 ++ p) w0 (by rw [List.length_append, beL_len]; omega) h0)
  have h4 := beL_len p.length 4
  have Hm := hid (show markL p = beL p.length 4 ++ (sumL (beL p.length 4 ++ p)).take 8 from rfl)
  have hS32 := sumL_len (beL p.length 4 ++ p)
  generalize markL p = M at *
  generalize sumL (beL p.length 4 ++ p) = S at *
  generalize beL p.length 4 = N at *
  have Hi := hid (show (Tryd.prog.info? 42).map (·.size) = some S.length by rw [hS32]; exact Tryd.sizeHash)
  have Hl := hid (show S.length = (hc zero32).size by rw [hS32]; rfl)
  have hsl := fun g w0 => run_sliceAt_hi (P := Tryd.prog) 42 5 32 Tryd.underlying42 Tryd.sizeU8f g 8 8 rfl (by omega) (by omega) w0
  have HB := Below.refl w.heap.size w
  have ht8 : (S.take 8).length = 8 := by rw [List.length_take]; omega
  have HS8 := hid hS32
  clear hS32
  go_enter Tryd.func30, Tryd.ntmps30
  go_wp2_with fail
  refine (Hp.out _).mono ?_
  rintro e w1 ⟨rfl, hb⟩
  replace HB := bth HB hb
  clear hb
  go_wp2_with fail
  refine (Hs.out _ (HG.out.later HB)).mono ?_
  rintro e w2 ⟨rfl, hb⟩
  replace HB := bth HB hb
  clear hb
  have hcv := (Blk.new w2 (hc S) 42).convHead (P := Tryd.prog) (k := 8) (n := 32) (by rw [HS8.out]; omega) 35 9 5 Tryd.underlying35 Tryd.underlying5 Tryd.underlying9
  go_wp2_with ((with_reducible show wpList _ _ _ ({ dst := _, op := Op.store _ _ _, type := _, pos := _, after := _, guard := _ } :: _) _ _); refine wpList_store_new rfl 42 _ _ rfl rfl S rfl (hc zero32) 42 Hl.out Hi.out ?_)
  go_ret
  exact ⟨by rw [Hm.out]; rfl, HB.alloc HB.size _⟩
set_option maxHeartbeats 1000000 in
theorem fput_any (p : List UInt8) (w : World) (hl : p.length ≤ 65536) (hG : ShaG w) :
    Calls Tryd.prog 11 #[sv p] w fun e w' => e = .returned (.tuple #[sv (frameL p), .int .i64 0]) ∧ Below w.heap.size w w' := by
  have Hm := hid (mark_any p w (by omega) hG)
  have hd : decide ((65536 : Int) < (p.length : Int)) = false := by simp; omega
  have hml := markL_len p
  have Hf := hid (show frameL p = markL p ++ p from rfl)
  clear hG
  generalize markL p = M at *
  generalize frameL p = F at *
  go_enter Tryd.func11, Tryd.ntmps11
  go_wp2_with (go_at_call 30; refine Hm.out.mono ?_; rintro e w1 ⟨rfl, hb⟩)
  go_ret2
  exact ⟨by rw [Hf.out]; rfl, hb⟩
set_option maxHeartbeats 1000000 in
theorem fput_long (p : List UInt8) (w : World) (hl : 65536 < p.length) (hl2 : p.length ≤ 9223372036854775807) :
    Calls Tryd.prog 11 #[sv p] w fun e w' => e = .returned (.tuple #[sv [], .int .i64 3]) ∧ w = w' := by
  have hd : decide ((65536 : Int) < (p.length : Int)) = true := by simp; omega
  go_enter Tryd.func11, Tryd.ntmps11
  go_wp2
  go_ret2
  exact ⟨rfl, rfl⟩
end Go.Proofs.YtchpoggegdocpaaDoor
