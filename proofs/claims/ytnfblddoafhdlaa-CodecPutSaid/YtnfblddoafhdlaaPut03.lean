import Derived.Test.YtnfblddoafhdlaaLaw03b
set_option maxRecDepth 100000
namespace Go.Proofs.Ytnfblddoafhdlaa
open Go.RowKit Go.Spec
set_option maxHeartbeats 2000000 in
theorem put_law (n : Nat) (l : List UInt8) (v : Value) (hs : List (List UInt8)) (w : World) (hn : n < 18446744073709551616) (hl : l.length ≤ 9223372036854775807) (hv : SlAt w 32 v (hcs hs)) (hh : hs.length ≤ 9223372036854775807) :
    Calls Try.prog 3 #[.int .u64 n, sv l, v] w fun e w' => e = .returned (.bool true) ∧ Below w.heap.size w w' := by
  have HB := Below.refl w.heap.size w
  obtain ⟨a, cap, rfl, hcap⟩ := hv.formH
  have Hn := hid hn; clear hn
  by_cases h1 : 2000 < l.length
  · have hd : decide ((2000 : Int) < (l.length : Int)) = true := by simp; omega
    clear h1
    go_enter Try.func3, Try.ntmps3
    go_wp2_with (go_at_call 8; refine (coded_any _).mono ?_; rintro e w1 ⟨rfl, hb⟩; replace HB := bch HB hb; clear hb)
    go_ret
    exact ⟨rfl, HB⟩
  · have hd : decide ((2000 : Int) < (l.length : Int)) = false := by simp; omega
    by_cases h2 : 100 < hs.length
    · have hd2 : decide ((100 : Int) < (hs.length : Int)) = true := by simp; omega
      clear h1 h2
      go_enter Try.func3, Try.ntmps3
      go_wp2_with (go_at_call 8; refine (coded_any _).mono ?_; rintro e w1 ⟨rfl, hb⟩; replace HB := bch HB hb; clear hb)
      go_ret
      exact ⟨rfl, HB⟩
    · have hd2 : decide ((100 : Int) < (hs.length : Int)) = false := by simp; omega
      have h1' : l.length ≤ 2000 := by omega
      have h2' : hs.length ≤ 100 := by omega
      clear h1 h2 hl hh
      have Hv := hid hv
      clear hv
      go_enter Try.func3, Try.ntmps3
      go_wp2
      go_loopw [7] (fun i wr => ∃ k : Nat, k ≤ hs.length ∧ i = .int .i64 k ∧ Below w.heap.size w wr) (fun i _ => hs.length - (intOf i).toNat)
      case atStart => exact ⟨0, by omega, rfl, HB⟩
      case round =>
        obtain ⟨k, hk, rfl, hb⟩ := hrel
        by_cases hlt : k < hs.length
        · have Hv2 := Hv.out.below hb (Nat.le_refl _)
          obtain ⟨b, o, rfl, hbl, hcl, hcell⟩ := Hv2.at (i := k) (cs := hs[k].map bcell) (by simp [hcs, hlt])
          generalize hs[k] = x at *
          have hx : x.length = 32 := by simpa using hcl
          have Hsx := hid (show (Try.prog.info? 27).map (·.size) = some x.length by rw [hx]; exact Try.sizeHash)
          have Hx := hid hx
          have Hc := hid hcell
          clear hcell hcl hx Hv2
          go_wp2_with fail
          refine wp_region_later (by kernel_rfl) (by kernel_rfl) ?_
          repeat (first
            | (refine wpQuiet_load_hc rfl 27 _ rfl ⟨b, o + k * 32, none⟩ rfl x _ (by rintro _ ⟨q, rfl⟩; exact lat_cells q hbl Hc.out) Try.underlying27 rfl Hsx.out ?_; simp only [Act.put, List.setIfInBounds_toArray, List.set_cons_succ, List.set_cons_zero])
            | go_big_quiet_step ((first | (go_at_call 9; exact calls_later (hash_any x _ Hx.out)) | (go_at_call 10; exact calls_later (rhash_any x _ Hx.out)))))
          refine wpQuiet_nil ?_
          rintro _ ⟨q, rfl⟩
          have hb3 := lat_below q
          generalize lat q = w2 at *
          go_wp2
          go_roundw
          case rel => exact ⟨k + 1, by omega, by go_num, hb.trans (hb3.mono hb.size)⟩
          case measure => simp [intOf]; omega
        · have hke : k = hs.length := by omega
          subst hke
          clear HB
          go_wp2_with (first
            | (go_at_call 11; refine (num_any n _ Hn.out).mono ?_; rintro e w1 ⟨rfl, hb1⟩; replace hb := bch hb hb1; clear hb1)
            | (go_at_call 12; refine (rnum_any n _ Hn.out).mono ?_; rintro e w1 ⟨rfl, hb1⟩; replace hb := bch hb hb1; clear hb1)
            | (go_at_call 13; refine (text_any l _ (by omega)).mono ?_; rintro e w1 ⟨rfl, hb1⟩; replace hb := bch hb hb1; clear hb1)
            | (go_at_call 14; refine (rtext_any l _ (by omega)).mono ?_; rintro e w1 ⟨rfl, hb1⟩; replace hb := bch hb hb1; clear hb1)
            | (go_at_call 15; refine (hashes_any _ hs _ (Hv.out.below hb (Nat.le_refl _)) (by omega)).mono ?_; rintro e w1 ⟨rfl, hb1⟩; replace hb := bch hb hb1; clear hb1)
            | (go_at_call 16; refine (rhashes_any _ hs _ (Hv.out.below hb (Nat.le_refl _)) (by omega)).mono ?_; rintro e w1 ⟨rfl, hb1⟩; replace hb := bch hb hb1; clear hb1)
            | (go_at_call 8; refine (coded_any _).mono ?_; rintro e w1 ⟨rfl, hb1⟩; replace hb := bch hb hb1; clear hb1))
          go_ret
          exact ⟨rfl, hb⟩
end Go.Proofs.Ytnfblddoafhdlaa
