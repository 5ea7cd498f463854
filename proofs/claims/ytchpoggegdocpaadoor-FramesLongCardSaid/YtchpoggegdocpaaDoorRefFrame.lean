/- speculumref12.Put, Get -/
import Derived.Test.YtchpoggegdocpaaDoorFrameLaw
import Derived.Test.YtchpoggegdocpaaDoorBsAt
import Derived.Test.YtchpoggegdocpaaDoorRef01
import Derived.Test.YtchpoggegdocpaaDoorShaRefSum
import Derived.Test.YtchpoggegdocpaaDoorZero
set_option maxRecDepth 100000
namespace Go.Proofs.YtchpoggegdocpaaDoor
open Go.RowKit Go.Spec
theorem Tryd.sizeU8g : (Tryd.prog.info? 5).map (·.size) = some 1 := by kernel_rfl
set_option maxHeartbeats 1000000 in
theorem rfput_any (p : List UInt8) (w : World) (hl : p.length ≤ 65536) :
    Calls Tryd.prog 12 #[sv p] w fun e w' => e = .returned (.tuple #[sv (frameL p), .int .i64 0]) ∧ Below w.heap.size w w' := by
  have hd : decide ((65536 : Int) < (p.length : Int)) = false := by simp; omega
  have Hp := hid (fun w0 => rput_any p.length 4 w0 (by omega) (by omega))
  have Hs := hid (fun w0 => rsum_any (beL p.length 4 ++ p) w0 (by rw [List.length_append, beL_len]; omega))
  have h4 := beL_len p.length 4
  have Hm := hid (show frameL p = beL p.length 4 ++ ((sumL (beL p.length 4 ++ p)).take 8 ++ p) from List.append_assoc _ _ _)
  have hS32 := sumL_len (beL p.length 4 ++ p)
  generalize frameL p = M at *
  generalize sumL (beL p.length 4 ++ p) = S at *
  generalize beL p.length 4 = N at *
  have Hi := hid (show (Tryd.prog.info? 42).map (·.size) = some S.length by rw [hS32]; exact Tryd.sizeHash)
  have Hl := hid (show S.length = (hc zero32).size by rw [hS32]; rfl)
  have hsl := fun g w0 => run_sliceAt_hi (P := Tryd.prog) 42 5 32 Tryd.underlying42 Tryd.sizeU8g g 8 8 rfl (by omega) (by omega) w0
  have HB := Below.refl w.heap.size w
  have ht8 : (S.take 8).length = 8 := by rw [List.length_take]; omega
  have HS8 := hid hS32
  clear hS32
  go_enter Tryd.func12, Tryd.ntmps12
  go_wp2_with fail
  refine (Hp.out _).mono ?_
  rintro e w1 ⟨rfl, hb⟩
  replace HB := bth HB hb
  clear hb
  go_wp2_with fail
  refine (Hs.out _).mono ?_
  rintro e w2 ⟨rfl, hb⟩
  replace HB := bth HB hb
  clear hb
  have hcv := (Blk.new w2 (hc S) 42).convHead (P := Tryd.prog) (k := 8) (n := 32) (by rw [HS8.out]; omega) 35 9 5 Tryd.underlying35 Tryd.underlying5 Tryd.underlying9
  go_wp2_with ((with_reducible show wpList _ _ _ ({ dst := _, op := Op.store _ _ _, type := _, pos := _, after := _, guard := _ } :: _) _ _); refine wpList_store_new rfl 42 _ _ rfl rfl S rfl (hc zero32) 42 Hl.out Hi.out ?_)
  go_ret2
  exact ⟨by rw [Hm.out]; rfl, HB.alloc HB.size _⟩
set_option maxHeartbeats 1000000 in
theorem rfput_long (p : List UInt8) (w : World) (hl : 65536 < p.length) (hl2 : p.length ≤ 9223372036854775807) :
    Calls Tryd.prog 12 #[sv p] w fun e w' => e = .returned (.tuple #[sv [], .int .i64 3]) ∧ w = w' := by
  have hd : decide ((65536 : Int) < (p.length : Int)) = true := by simp; omega
  go_enter Tryd.func12, Tryd.ntmps12
  go_wp2
  go_ret2
  exact ⟨rfl, rfl⟩
end Go.Proofs.YtchpoggegdocpaaDoor
