/- speculumlaw08.keyed; signatures and what is recovered, for all numbers and all texts -/
import Derived.Test.YtchpoggegdocpaaDoorLamRefRecover
set_option maxRecDepth 100000
namespace Go.Proofs.YtchpoggegdocpaaDoor
open Go.RowKit Go.Spec
def inK (x : Int) : Prop := 0 ≤ x ∧ x < 2147483648
instance (x : Int) : Decidable (inK x) := by unfold inK; infer_instance
def sgn (seed : List UInt8) (x : Int) (d : List UInt8) : List UInt8 := if inK x then signL seed x.toNat d else []
theorem signL_len (seed : List UInt8) (a : Nat) (d : List UInt8) : (signL seed a d).length = 16384 := by unfold signL; rw [List.length_append, sec1_len, oth1_len]
theorem sgn_len (seed : List UInt8) (x : Int) (d : List UInt8) : (sgn seed x d).length ≤ 16384 := by
  unfold sgn; split
  · rw [signL_len]; omega
  · simp
theorem sign_any (seed d : List UInt8) (x : Int) (w : World) (hs : seed.length ≤ 1000000) (hdl : d.length = 32) (hG : ShaG w) :
    Calls Tryd.prog 18 #[sv seed, .int .i64 x, hv d] w fun e w' => e = .returned (sv (sgn seed x d)) ∧ Below w.heap.size w w' := by
  unfold sgn
  by_cases h : inK x
  · obtain ⟨h1, h2⟩ := id h
    obtain ⟨a, rfl⟩ : ∃ a : Nat, x = a := ⟨x.toNat, by omega⟩
    rw [if_pos h]
    exact sign_in seed d a w hs hdl (by omega) hG
  · rw [if_neg h]
    exact sign_out seed d x w (by unfold inK at h; omega)
theorem rsign_any (seed d : List UInt8) (x : Int) (w : World) (hs : seed.length ≤ 1000000) (hdl : d.length = 32) :
    Calls Tryd.prog 19 #[sv seed, .int .i64 x, hv d] w fun e w' => e = .returned (sv (sgn seed x d)) ∧ Below w.heap.size w w' := by
  unfold sgn
  by_cases h : inK x
  · obtain ⟨h1, h2⟩ := id h
    obtain ⟨a, rfl⟩ : ∃ a : Nat, x = a := ⟨x.toNat, by omega⟩
    rw [if_pos h]
    exact rsign_in seed d a w hs hdl (by omega)
  · rw [if_neg h]
    exact rsign_out seed d x w (by unfold inK at h; omega)
def recH (sig d : List UInt8) : List UInt8 := if sig.length = 16384 then recK sig d else zero32
def recE (sig : List UInt8) : Int := if sig.length = 16384 then 0 else 10
theorem recH_len (sig d : List UInt8) : (recH sig d).length = 32 := by
  unfold recH; split
  · exact recK_len _ _
  · rfl
theorem recover_any (sig d : List UInt8) (w : World) (hs : sig.length ≤ 9223372036854775807) (hdl : d.length = 32) (hG : ShaG w) :
    Calls Tryd.prog 22 #[sv sig, hv d] w fun e w' => e = .returned (.tuple #[hv (recH sig d), .int .i64 (recE sig)]) ∧ Below w.heap.size w w' := by
  unfold recH recE
  by_cases h : sig.length = 16384
  · rw [if_pos h, if_pos h]; exact recover_yes sig d w h hdl hG
  · rw [if_neg h, if_neg h]; exact recover_bad sig d w hs h
theorem rrecover_any (sig d : List UInt8) (w : World) (hs : sig.length ≤ 9223372036854775807) (hdl : d.length = 32) :
    Calls Tryd.prog 23 #[sv sig, hv d] w fun e w' => e = .returned (.tuple #[hv (recH sig d), .int .i64 (recE sig)]) ∧ Below w.heap.size w w' := by
  unfold recH recE
  by_cases h : sig.length = 16384
  · rw [if_pos h, if_pos h]; exact rrecover_yes sig d w h hdl
  · rw [if_neg h, if_neg h]; exact rrecover_bad sig d w hs h
def d80 : List UInt8 := 128 :: List.replicate 31 0
theorem keyed_bit : bitL d80 0 = 1 := by decide +kernel
theorem keyed_not : (secN [97] 0 0 1 == zero32) = false := by decide +kernel
theorem sec1_head (seed : List UInt8) (a : Nat) (d : List UInt8) : ∀ n, (sec1 seed a d (n + 1)).take 32 = secN seed a 0 (bitL d 0)
  | 0 => by rw [sec1_next, show sec1 seed a d 0 = [] from rfl, List.nil_append, List.take_of_length_le (by rw [secN_len]; omega)]
  | n + 1 => by rw [sec1_next, List.take_append_of_le_length (by rw [sec1_len]; omega)]; exact sec1_head seed a d n
theorem signL_head (seed : List UInt8) (a : Nat) (d : List UInt8) : (signL seed a d).take 32 = secN seed a 0 (bitL d 0) := by
  unfold signL
  rw [List.take_append_of_le_length (by rw [sec1_len]; omega)]
  exact sec1_head seed a d 255
theorem Tryd.d80Hash (w : World) : (Instr.build 42 #[(0, .int .u8 128)]).run Tryd.prog w = .ok (hv d80) w := by kernel_rfl
set_option maxHeartbeats 2000000 in
theorem keyed_any (w : World) (hG : ShaG w) :
    Calls Tryd.prog 17 #[] w fun e w' => e = .returned (.bool true) ∧ Below w.heap.size w w' := by
  have HG := hid hG; clear hG
  have hs3 := Tryd.sizeHash
  have hs5 := Tryd.sizeU8
  have hge := Tryd.guardHash3
  have hz32 : zero32.length = 32 := rfl
  have hzb := Tryd.zeroHash
  have hq0 := keyed_not
  have hdl : d80.length = 32 := rfl
  have Hbd := hid Tryd.d80Hash
  have H32 := hid (signL_head [97] 0 d80)
  rw [keyed_bit] at H32
  have hsl := signL_len [97] 0 d80
  have hfl := secN_len [97] 0 0 1
  have S := hid (fun w0 h0 => sign_in [97] d80 0 w0 (by decide) hdl (by decide) h0)
  have C := hid (fun w0 h0 => secret_in [97] 0 0 1 w0 (by decide) (by decide) (by decide) (by decide) h0)
  have C1 := hid (show ∀ (w1 : World) (x : Later w1), Calls Tryd.prog 20 #[.string ⟨#[97]⟩, .int .i64 0, .int .i64 256, .int .i64 0] (lat x) fun e w' => e = .returned (hv zero32) ∧ Below (lat x).heap.size (lat x) w' from fun w1 x => secret_out [97] 0 256 0 (lat x) (by decide))
  have C2 := hid (show ∀ (w1 : World) (x : Later w1), Calls Tryd.prog 20 #[.string ⟨#[97]⟩, .int .i64 (-1), .int .i64 0, .int .i64 0] (lat x) fun e w' => e = .returned (hv zero32) ∧ Below (lat x).heap.size (lat x) w' from fun w1 x => secret_out [97] (-1) 0 0 (lat x) (by decide))
  have R := hid (fun w0 => recover_bad [] d80 w0 (by decide) (by decide))
  have HD := hid hdl
  have HSl := hid hsl
  have HF := hid hfl
  have hslb : 16384 ≤ (signL [97] 0 d80).length := by omega
  have Hsd := hid (show (Tryd.prog.info? 42).map (·.size) = some (hc d80).size by rw [hc_size, hdl]; exact Tryd.sizeHash)
  have Hsf := hid (show (Tryd.prog.info? 42).map (·.size) = some (secN [97] 0 0 1).length by rw [hfl]; exact Tryd.sizeHash)
  clear hdl hsl hfl
  generalize signL [97] 0 d80 = G at *
  generalize secN [97] 0 0 1 = F at *
  generalize d80 = D at *
  go_enter Tryd.func17, Tryd.ntmps17
  go_upto_region 3 with (first
    | ((with_reducible show wpList _ _ _ ({ dst := _, op := Op.build 42 _, type := _, pos := _, after := _, guard := _ } :: _) _ _); refine wpList_buildV rfl 42 _ rfl (hv D) (by simp only [List.map_toArray, List.map_cons, List.map_nil]; exact Hbd.out _) ?_)
    | ((with_reducible show wpList _ _ _ ({ dst := _, op := Op.store _ _ _, type := _, pos := _, after := _, guard := _ } :: _) _ (World.alloc w _)); refine wpList_store_new rfl 42 _ _ rfl rfl D rfl (hc zero32) 42 (by rw [HD.out]; rfl) (by rw [HD.out]; exact Tryd.sizeHash) ?_; have hB := Blk.new w (hc D) 42; have HA := (Below.refl w.heap.size w).alloc (Nat.le_refl _) (.cells (hc D) 42))
    | ((with_reducible show wpList _ _ _ ({ dst := _, op := Op.load 42 _, type := _, pos := _, after := _, guard := _ } :: _) _ _); refine wpList_load_blk rfl 42 _ rfl w.heap.size rfl _ (hc D) _ hB Tryd.underlying42 rfl Hsd.out ?_)
    | (go_at_call 18; refine (S.out _ (HG.out.later HA)).mono ?_; rintro e w1 ⟨rfl, hb1⟩; have HB1 := hid (bth HA hb1); have hB1 := hid (hB.later hb1); clear hb1 hB HA))
  go_upto_region 4 with (first
    | (go_at_call 20; refine (C.out _ (HG.out.later HB1.out)).mono ?_; rintro e w2 ⟨rfl, hb2⟩; have HB2 := hid (bth HB1.out hb2); have hB2 := hid (hB1.out.later hb2); clear hb2 hB1)
    | ((with_reducible show wpList _ _ _ ({ dst := _, op := Op.store _ _ _, type := _, pos := _, after := _, guard := _ } :: _) _ (World.alloc w2 _)); refine wpList_store_new rfl 42 _ _ rfl rfl F rfl (hc zero32) 42 (by rw [HF.out]; rfl) Hsf.out ?_))
  show Code.wp _ _ _ _ (w2.alloc (.cells (hc F) 42))
  have HBf := hid (Blk.new w2 (hc F) 42)
  have HBd := hid (hB2.out.alloc (.cells (hc F) 42))
  have HB3 := hid (HB2.out.alloc HB2.out.size (.cells (hc F) 42))
  generalize w2.alloc (.cells (hc F) 42) = w3 at *
  generalize w2.heap.size = gf at *
  clear HB2 hB2
  go_upto_region 5 with (first
    | ((with_reducible show wpList _ _ _ ({ dst := _, op := Op.load 42 _, type := _, pos := _, after := _, guard := _ } :: _) _ _); refine wpList_load_blk rfl 42 _ rfl w.heap.size rfl _ (hc D) _ HBd.out Tryd.underlying42 rfl Hsd.out ?_)
    | (go_at_call 22; refine (R.out _).mono ?_; rintro e w4 ⟨rfl, hb4⟩)
    | ((with_reducible show wpList _ _ _ ({ dst := _, op := Op.store _ _ _, type := _, pos := _, after := _, guard := _ } :: _) _ (World.alloc w4 _)); refine wpList_store_new rfl 42 _ _ rfl rfl zero32 rfl (hc zero32) 42 rfl Tryd.sizeHash ?_))
  show Code.wp _ _ _ _ (w4.alloc (.cells (hc zero32) 42))
  have HB5 := hid ((bth HB3.out hb4).alloc (bth HB3.out hb4).size (.cells (hc zero32) 42))
  have HBf5 := hid ((HBf.out.later hb4).alloc (.cells (hc zero32) 42))
  clear hb4 HBf HBd HB3
  generalize w4.alloc (.cells (hc zero32) 42) = w5 at *
  have hcv := fun x : Later w5 => (HBf5.out.later (lat_below x)).convHead (P := Tryd.prog) (k := 32) (n := 32) (by rw [HF.out]; omega) 35 9 5 Tryd.underlying35 Tryd.underlying5 Tryd.underlying9
  rw [List.take_of_length_le (by rw [HF.out]; omega)] at hcv
  have hfl := HF.out
  have hgl : ((G.length : Int) == 16384) = true := by rw [HSl.out]; rfl
  have hg32 : (G.take 32 == F) = true := by rw [H32.out]; simp
  refine wp_region_later (by kernel_rfl) (by kernel_rfl) ?_
  repeat (first
    | (refine wpQuiet_buildV rfl 42 rfl (hv zero32) Tryd.zeroHash ?_; simp only [Act.put, List.setIfInBounds_toArray, List.set_cons_succ, List.set_cons_zero])
    | (refine wpQuiet_load_later rfl 42 _ rfl gf rfl (hc F) 42 _ HBf5.out Tryd.underlying42 rfl (by rw [hc_size]; exact Hsf.out) ?_; simp only [Act.put, List.setIfInBounds_toArray, List.set_cons_succ, List.set_cons_zero])
    | go_big_quiet_step ((first | (go_at_call 20; with_reducible exact calls_later (C1.out w5 _)) | (go_at_call 20; with_reducible exact calls_later (C2.out w5 _)))))
  refine wpQuiet_nil ?_
  rintro _ ⟨q6, rfl⟩
  have hb6 := lat_below q6
  generalize lat q6 = w6 at *
  go_wp2
  go_ret
  exact ⟨rfl, bth HB5.out hb6⟩
end Go.Proofs.YtchpoggegdocpaaDoor
