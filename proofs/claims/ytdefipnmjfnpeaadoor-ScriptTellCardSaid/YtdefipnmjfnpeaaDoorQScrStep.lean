/- script.step -/
import Derived.Test.YtdefipnmjfnpeaaDoorQScrWords

set_option maxRecDepth 100000
namespace Go.Proofs.YtdefipnmjfnpeaaDoor
open Go.RowKit Go.Spec
theorem split_any (s : List UInt8) (w : World) (hs : s.length ≤ 4000000000) (hG : ScrG w) :
    Calls Tryd.prog 30 #[sv s, .string ⟨#[32]⟩] w fun e w' => e = .returned (.slice (some ⟨w.heap.size, 0, none⟩) (wordsP s).length (wordsP s).length) ∧ Blk w' w.heap.size ((wordsP s).map sv).toArray 9 ∧ Below w.heap.size w w' := by
  obtain ⟨m, hm⟩ := hG.max
  refine (Tryd.strings_Split (mkS s) ⟨#[32]⟩ m w (by rw [mkS_size]; omega) hm (by decide)).mono ?_
  rintro e w' ⟨rfl, rfl⟩
  have hd : (mkS s).data.toList = s := by simp [mkS]
  have hc : Lib.countB (mkS s) ⟨#[32]⟩ = Lib.count s [32] := by show Lib.count (mkS s).data.toList [32] = _; rw [hd]
  have hW : (Lib.splitB ⟨#[32]⟩ 0 (Lib.countB (mkS s) ⟨#[32]⟩) (mkS s)).map (·.data.toList) = wordsP s := by
    rw [Lib.splitB_data, hd, hc]; rfl
  have hlen : Lib.countB (mkS s) ⟨#[32]⟩ + 1 = (wordsP s).length := by
    rw [← hW, List.length_map, Lib.splitB_all ⟨#[32]⟩ (by decide) 0 _ (mkS s) rfl]
  have hv : (Lib.splitB ⟨#[32]⟩ 0 (Lib.countB (mkS s) ⟨#[32]⟩) (mkS s)).map Value.string = (wordsP s).map sv := by
    rw [← hW, List.map_map]
    refine List.map_congr_left fun b _ => ?_
    simp [mkS]
  rw [hlen, hv]
  exact ⟨rfl, Blk.new _ _ _, (Below.refl _ w).alloc (Nat.le_refl _) _⟩
theorem run_slice1 {P : Program} (T E : TypeId) (hT : P.underlying T = some (.slice E)) (hE : (P.info? E).map (·.size) = some 1) (g o m : Nat) (hm : 1 ≤ m) :
    ∃ o2, (∀ w', (Instr.sliceAt T (.slice (some ⟨g, o, none⟩) m m) (some (.int .i64 1)) none none).run P w' = .ok (.slice (some ⟨g, o2, none⟩) (m - 1) (m - 1)) w') ∧ (2 ≤ m → o2 = o + 1) := by
  cases hq : P.info? E with
  | none => simp [hq] at hE
  | some i =>
    have hi : i.size = 1 := by simpa [hq] using hE
    refine ⟨if m = 1 then o else o + 1, fun w' => ?_, fun h => if_neg (by omega)⟩
    by_cases h1 : m = 1
    · subst h1
      simp [Instr.sliceAt, Instr.slice, run_underlying hT, Instr.sliceBounds, Instr.sliceBound, asIntOf, Sem.run_bind, sizeOf, typeInfo, hq, hi]
    · have hb : (1 : Int) ≤ (m : Int) := by omega
      have hne : ¬ m - 1 = 0 := by omega
      simp [Instr.sliceAt, Instr.slice, run_underlying hT, Instr.sliceBounds, Instr.sliceBound, asIntOf, Sem.run_bind, sizeOf, typeInfo, hq, hi, hb, hm, h1, Addr.add]
def zeroStp : Array Value := #[.int .i64 0, .int .i64 0, .int .i64 0, .int .i64 0, .string ⟨#[]⟩]
def ptrC (g : Nat) : Array Value := #[.pointer (some ⟨g, 1, none⟩), .pointer (some ⟨g, 2, none⟩), .pointer (some ⟨g, 3, none⟩)]
def stpI (W : List (List UInt8)) (k i : Nat) : Stp := ⟨k, if 0 < i then atoiV (at4 W 1) else 0, if 1 < i then atoiV (at4 W 2) else 0, if 2 < i then atoiV (at4 W 3) else 0, []⟩
theorem stpI_set (W : List (List UInt8)) (k i : Nat) (h : i < 3) : (stpI W k i).cs.setIfInBounds (1 + i) (.int .i64 (atoiV (at4 W (1 + i)))) = (stpI W k (i + 1)).cs := by
  have h3 : i = 0 ∨ i = 1 ∨ i = 2 := by omega
  rcases h3 with rfl | rfl | rfl <;> simp [stpI, Stp.cs]
theorem stpI_cell (W : List (List UInt8)) (k i : Nat) (h : i < 3) : (stpI W k i).cs[1 + i]? = some (.int .i64 0) := by
  have h3 : i = 0 ∨ i = 1 ∨ i = 2 := by omega
  rcases h3 with rfl | rfl | rfl <;> simp [stpI, Stp.cs]
theorem progP_none (W : List (List UInt8)) (k : Nat) (h : textT k = false ∨ ¬ 1 + numsT k < W.length) : (progP W k).cs = (stpI W k (numsT k)).cs := by
  have e : (progP W k).text = [] := if_neg (by rcases h with h | h <;> simp [h])
  show (#[_, _, _, _, sv (progP W k).text] : Array Value) = _
  rw [e]; rfl
theorem progP_text2 (W : List (List UInt8)) (k : Nat) (h : textT k = true ∧ 1 + numsT k < W.length) : (stpI W k (numsT k)).cs.setIfInBounds 4 (sv (unhexL (at4 W (1 + numsT k)))) = (progP W k).cs := by
  have e : (progP W k).text = unhexL (at4 W (1 + numsT k)) := if_pos h
  show _ = (#[_, _, _, _, sv (progP W k).text] : Array Value)
  rw [e]; rfl
theorem progP_text (W : List (List UInt8)) (k m : Nat) (h : ∀ v ∈ W, v.length ≤ m) (hm : m ≤ 100000000) : (progP W k).text.length ≤ 100000000 := by
  show (if _ then unhexL _ else ([] : List UInt8)).length ≤ _
  split
  · rename_i g
    have h1 : (unhexL (at4 W (1 + numsT k))).length ≤ (at4 W (1 + numsT k)).length := Nat.le_trans (unP_len _) (by rw [List.length_drop]; omega)
    have h2 : at4 W (1 + numsT k) ∈ W := by
      unfold at4
      rw [List.getD_eq_getElem?_getD, List.getElem?_eq_getElem g.2]
      exact List.getElem_mem g.2
    have := h _ h2
    omega
  · simp
theorem stp_one (x : Stp) : ∀ v ∈ x.cs.toList, v.oneCell' = true := by intro v hv; simp [Stp.cs] at hv; rcases hv with rfl | rfl | rfl | rfl | rfl <;> rfl
theorem zeroStp_one : ∀ v ∈ zeroStp.toList, v.oneCell' = true := by intro v hv; simp [zeroStp] at hv; rcases hv with rfl | rfl <;> rfl
set_option maxHeartbeats 16000000 in
theorem step_any (s : List UInt8) (w : World) (hs : s.length ≤ 50000000) (hG : ScrG w) :
    Calls Tryd.prog 17 #[sv s] w fun e w' => (∃ x : Stp, e = .returned (.tuple #[x.v, .bool (stepB s)]) ∧ (stepB s = true → x.Ok ∧ lineL x = s ++ [10])) ∧ Below w.heap.size w w' := by
  have HG := hid hG; clear hG
  have hs2 : s.length ≤ 100000000 := by omega
  have SA := hid (fun w0 h0 => split_any s w0 (by omega) h0)
  obtain ⟨w0, wr0, hW⟩ := wordsP_ne s
  have HW0 := hid hW; clear hW
  go_enter Tryd.func17, Tryd.ntmps17
  go_upto_region 1 with fail
  refine wp_world (fun W => Blk W w.heap.size zeroStp 28 ∧ Below w.heap.size w W) ⟨Blk.new _ _ _, (Below.refl _ w).alloc (Nat.le_refl _) _⟩ ?_
  rintro y0 ⟨hR, hb0⟩
  have HR0 := hid hR; have HB0 := hid hb0; clear hR hb0
  go_upto_region 2 with (go_at_call 30; refine (SA.out _ (HG.out.later HB0.out)).mono ?_; rintro e y1 ⟨rfl, hS1, hb1⟩)
  have HR1 := hid (HR0.out.later hb1); have HS1 := hid hS1; have HB1 := hid (bth HB0.out hb1)
  have Hgs := hid (show w.heap.size < y0.heap.size from HR0.out.lt)
  clear hS1 hb1 HR0 HB0 SA
  generalize y0.heap.size = gs at *
  clear y0
  obtain ⟨W, hWW⟩ : ∃ W, wordsP s = W := ⟨_, rfl⟩
  have hW := HW0.out
  rw [hWW] at hW HS1
  simp only [hWW]
  clear HW0
  have HW := hid (And.intro hWW hW)
  have hn1 : 1 ≤ W.length := by rw [hW]; simp
  have HWl := hid (show ∀ v ∈ W, v.length ≤ s.length from hWW ▸ wordsP_len s)
  clear hWW hW
  go_upto_region 3 with fail
  obtain ⟨n, hn⟩ : ∃ n, W.length = n := ⟨_, rfl⟩
  rw [hn] at hn1
  simp only [hn]
  have Hn := hid hn; clear hn
  go_loopw [4, 5] (fun v i wr => ∃ k : Nat, 1 ≤ k ∧ k ≤ 14 ∧ v = .slice (some ⟨gs, 0, none⟩) n n ∧ i = .int .i64 (k : Int) ∧ (∀ m, 1 ≤ m → m < k → wordT m ≠ w0) ∧ Blk wr w.heap.size zeroStp 28 ∧ Blk wr gs (W.map sv).toArray 9 ∧ Below w.heap.size w wr) (fun _ i _ => 14 - (intOf i).toNat)
  case atStart => exact ⟨1, by omega, by omega, rfl, rfl, fun m h1 h2 => by omega, HR1.out, HS1.out, HB1.out⟩
  case round =>
    obtain ⟨k, hk1, hk, rfl, rfl, hno, hR, hS, hb⟩ := hrel
    have HNo := hid hno; have HR := hid hR; have HS := hid hS; have HB := hid hb
    clear hno hR hS hb HR1 HS1 HB1
    by_cases hlt : k < 14
    · have hkI : (k : Int) ≤ 13 := by omega
      have hk14 : (k : Int) < 14 := by omega
      have UC := hid (uses_cells (HG.out.later HB.out) k hlt)
      go_upto_region 6 with (first
        | ((with_reducible show wpList _ _ _ ({ dst := _, op := Op.load 59 _, type := _, pos := _, after := _, guard := _ } :: _) _ _); refine wpList_load_cs rfl 59 _ rfl ⟨0, k * 3, none⟩ rfl _ _ UC.out Tryd.underlying59 rfl Tryd.sizeUses ?_)
        | ((with_reducible show wpList _ _ _ ({ dst := _, op := Op.store _ _ _, type := _, pos := _, after := _, guard := _ } :: _) _ _); refine wpList_store_newA rfl 59 _ _ rfl rfl (usesC k) rfl _ 59 rfl Tryd.sizeUses (by intro v hv; simp [usesC] at hv; rcases hv with rfl | rfl | rfl <;> rfl) ?_))
      refine wp_world (fun W' => Blk W' wr.heap.size (usesC k) 59 ∧ Blk W' w.heap.size zeroStp 28 ∧ Blk W' gs (W.map sv).toArray 9 ∧ Below w.heap.size w W') ⟨Blk.new _ _ _, HR.out.alloc _, HS.out.alloc _, HB.out.alloc HB.out.size _⟩ ?_
      have Hgu := hid (show w.heap.size < wr.heap.size ∧ gs < wr.heap.size from ⟨HR.out.lt, HS.out.lt⟩)
      clear UC HR HS HB
      generalize wr.heap.size = gu at *
      clear wr
      rintro y2 ⟨hU, hR, hS, hb⟩
      have HU2 := hid hU; have HR2 := hid hR; have HS2 := hid hS; have HB2 := hid hb
      clear hU hR hS hb
      have Q0 := hid (fun q : Later y2 => show (lat q).cell? ⟨gu, 0, none⟩ = some (sv (wordT k)) from (HU2.out.later (lat_below q)).cell 0)
      have Q1 := hid (fun q : Later y2 => show (lat q).cell? ⟨gs, 0, none⟩ = some (sv w0) from by
        rw [(HS2.out.later (lat_below q)).cell 0, HW.out.2]; rfl)
      have hn1I : (0 : Int) < (n : Int) := by omega
      simp only [Act.put]
      by_cases hw : wordT k = w0
      · have Hk := hid (show (1 ≤ k ∧ k < 14) ∧ wordT k = at4 (wordsP s) 0 from ⟨⟨hk1, hlt⟩, by rw [hw, HW.out.1, HW.out.2]; rfl⟩)
        rw [hw] at Q0
        clear hw HNo
        refine wp_region_later (by kernel_rfl) (by kernel_rfl) ?_
        repeat (first
          | go_big_quiet_skip
          | (refine wpQuiet_load_one rfl 9 _ rfl ⟨gu, 0, none⟩ rfl (sv w0) _ (by rintro _ ⟨q, rfl⟩; exact Q0.out q) Tryd.underlying9 rfl ?_; simp only [Act.put, List.setIfInBounds_toArray, List.set_cons_succ, List.set_cons_zero])
          | (refine wpQuiet_load_one rfl 9 _ rfl ⟨gs, 0, none⟩ rfl (sv w0) _ (by rintro _ ⟨q, rfl⟩; exact Q1.out q) Tryd.underlying9 rfl ?_; simp only [Act.put, List.setIfInBounds_toArray, List.set_cons_succ, List.set_cons_zero])
          | (go_big_quiet_want; go_big_quiet_op; first | go_big_quiet_on | (refine ⟨_, fun _ _ => rfl, ?_⟩; go_big_quiet_on)))
        refine wpQuiet_nil ?_
        rintro _ ⟨q6, rfl⟩
        have hb6 := lat_below q6
        generalize lat q6 = w6 at *
        have HU6 := hid (HU2.out.later hb6); have HR6 := hid (HR2.out.later hb6); have HS6 := hid (HS2.out.later hb6); have HB6 := hid (bth HB2.out hb6)
        clear hb6 Q0 Q1 HU2 HR2 HS2 HB2
        have hbld : ∀ w', (Instr.build 28 #[(0, .int .i64 (k : Int))]).run Tryd.prog w' = .ok (.agg (Stp.mk k 0 0 0 []).cs) w' := fun w' => by kernel_rfl
        go_upto_region 8 with (first
          | ((with_reducible show wpList _ _ _ ({ dst := _, op := Op.store _ _ _, type := _, pos := _, after := _, guard := _ } :: _) _ _); refine wpList_store_newA rfl 28 _ _ rfl rfl (Stp.mk k 0 0 0 []).cs rfl _ 28 rfl Tryd.sizeStep (stp_one _) ?_))
        simp only [Act.put]
        refine wp_world (fun W' => Blk W' w6.heap.size (Stp.mk k 0 0 0 []).cs 28 ∧ Blk W' gu (usesC k) 59 ∧ Blk W' w.heap.size zeroStp 28 ∧ Blk W' gs (W.map sv).toArray 9 ∧ Below w.heap.size w W') ⟨Blk.new _ _ _, HU6.out.alloc _, HR6.out.alloc _, HS6.out.alloc _, HB6.out.alloc HB6.out.size _⟩ ?_
        have Hgx := hid (show w.heap.size < w6.heap.size ∧ gs < w6.heap.size ∧ gu < w6.heap.size from ⟨HR6.out.lt, HS6.out.lt, HU6.out.lt⟩)
        clear HU6 HR6 HS6 HB6 hbld
        generalize w6.heap.size = gx at *
        rintro y3 ⟨hX, hU, hR, hS, hb⟩
        have HX3 := hid hX; have HU3 := hid hU; have HR3 := hid hR; have HS3 := hid hS; have HB3 := hid hb
        clear hX hU hR hS hb
        have hn1' : 1 ≤ (n : Int) := by omega
        obtain ⟨o, hsl, ho⟩ := run_slice1 (P := Tryd.prog) 61 9 Tryd.underlying61 (by kernel_rfl) gs 0 n hn1
        have Ho := hid (show 2 ≤ n → o = 1 from fun h => by have := ho h; omega)
        clear ho
        have u1 : y3.cell? ⟨gu, 1, none⟩ = some (.int .i64 (numsT k : Nat)) := HU3.out.cell 1
        have hN := nums_le k
        have hNI : (numsT k : Int) ≤ 3 := Int.ofNat_le.2 hN
        obtain ⟨N, hNk⟩ : ∃ N, numsT k = N := ⟨_, rfl⟩
        rw [hNk] at u1 hN hNI
        have HNk := hid hNk; clear hNk
        have hlt3 : gu < y3.heap.size := HU3.out.lt
        go_upto_region 10 with fail
        refine wp_world (fun W' => Blk W' gx (stpI W k 0).cs 28 ∧ Blk W' gu (usesC k) 59 ∧ Blk W' w.heap.size zeroStp 28 ∧ Blk W' gs (W.map sv).toArray 9 ∧ Blk W' y3.heap.size (ptrC gx) 71 ∧ Below w.heap.size w W') ⟨HX3.out.alloc _, HU3.out.alloc _, HR3.out.alloc _, HS3.out.alloc _, Blk.new _ _ _, HB3.out.alloc HB3.out.size _⟩ ?_
        have Hgp := hid (show gx < y3.heap.size ∧ gs < y3.heap.size ∧ gu < y3.heap.size from ⟨HX3.out.lt, HS3.out.lt, HU3.out.lt⟩)
        clear HX3 HU3 HR3 HS3 HB3 u1 hlt3 hsl
        generalize y3.heap.size = gp at *
        rintro y4 ⟨hX, hU, hR, hS, hP, hb⟩
        go_loopw [4, 37] (fun v ii W' => ∃ i o : Nat, i ≤ N ∧ i + 1 ≤ n ∧ v = .slice (some ⟨gs, o, none⟩) (n - 1 - i) (n - 1 - i) ∧ (2 + i ≤ n → o = 1 + i) ∧ ii = .int .i64 (i : Int) ∧ Blk W' gx (stpI W k i).cs 28 ∧ Blk W' gu (usesC k) 59 ∧ Blk W' w.heap.size zeroStp 28 ∧ Blk W' gs (W.map sv).toArray 9 ∧ Blk W' gp (ptrC gx) 71 ∧ Below w.heap.size w W') (fun _ ii _ => N - (intOf ii).toNat)
        case atStart => exact ⟨0, o, by omega, hn1, rfl, fun h => Ho.out (by omega), rfl, hX, hU, hR, hS, hP, hb⟩
        case round =>
          clear hX hU hR hS hP hb Ho
          obtain ⟨i, o, hi, hin, rfl, ho, rfl, hX, hU, hR, hS, hP, hb⟩ := hrel
          have Ho := hid ho; have HX := hid hX; have HU := hid hU; have HR := hid hR; have HS := hid hS; have HP := hid hP; have HB := hid hb
          clear ho hX hU hR hS hP hb
          by_cases hiN : i < N
          · have hiI : (i : Int) < (N : Int) := by omega
            have cp : wr.cell? ⟨gp, i, none⟩ = some (.pointer (some ⟨gx, 1 + i, none⟩)) := by
              have h3 : i = 0 ∨ i = 1 ∨ i = 2 := by omega
              rcases h3 with rfl | rfl | rfl
              · exact HP.out.cell 0
              · exact HP.out.cell 1
              · exact HP.out.cell 2
            by_cases hz : n - 1 - i = 0
            · have HE := hid (step_few s k Hk.out.1 Hk.out.2 (by rw [HW.out.1, HNk.out, Hn.out]; omega))
              have hdz : decide ((((n - 1 - i : Nat)) : Int) = 0) = true := decide_eq_true (by omega)
              rw [hz]
              clear hz hdz
              go_wp2_with ((with_reducible show wpList _ _ _ ({ dst := _, op := Op.store _ _ _, type := _, pos := _, after := _, guard := _ } :: _) _ _); refine wpList_store_blk rfl 28 _ _ rfl w.heap.size rfl zeroStp rfl _ 28 HR.out rfl Tryd.sizeStep zeroStp_one ?_)
              have HR9 := hid (HR.out.setRow (cs' := zeroStp))
              have HB9 := hid (HB.out.setRow (g := w.heap.size) (by omega) zeroStp)
              refine bodyPost_ret (results_cell2 rfl _ w.heap.size 28 zeroStp (0, 0) _ rfl HR9.out Tryd.underlying28 rfl Tryd.sizeStep) rfl ⟨⟨⟨0, 0, 0, 0, []⟩, ?_, fun h => ?_⟩, HB9.out⟩
              · rw [HE.out]; rfl
              · rw [HE.out] at h; cases h
            · obtain ⟨m, hm⟩ : ∃ m, n - 1 - i = m := ⟨_, rfl⟩
              have hm1 : 1 ≤ m := by omega
              have hoe : o = 1 + i := Ho.out (by omega)
              obtain ⟨o2, hsl, ho2⟩ := run_slice1 (P := Tryd.prog) 61 9 Tryd.underlying61 (by kernel_rfl) gs o m hm1
              have Ho2 := hid (show 2 + (i + 1) ≤ n → o2 = 1 + (i + 1) from fun h => by have := ho2 (by omega); omega)
              have Hm2 := hid (show n - 1 - (i + 1) = m - 1 ∧ i + 1 + 1 ≤ n from ⟨by omega, by omega⟩)
              have hlW : 1 + i < W.length := by rw [Hn.out]; omega
              have cw : wr.cell? ⟨gs, o, none⟩ = some (sv (at4 W (1 + i))) := by
                rw [HS.out.cell o, hoe]
                unfold at4
                rw [List.getD_eq_getElem?_getD, List.getElem?_eq_getElem hlW]
                simp [List.getElem?_eq_getElem hlW]
              have hVl : (at4 W (1 + i)).length ≤ s.length := by
                unfold at4
                rw [List.getD_eq_getElem?_getD, List.getElem?_eq_getElem hlW]
                exact HWl.out _ (List.getElem_mem hlW)
              have C1 := hid (atoi_any (at4 W (1 + i)) (by omega) wr (HG.out.later HB.out))
              have HSx := hid (stpI_set W k i (by omega))
              have HCx := hid (stpI_cell W k i (by omega))
              have hmI : (1 : Int) ≤ (m : Int) := by omega
              have hm0 : ¬ m = 0 := by omega
              rw [hm]
              clear hz hoe ho2 hVl hlW hm
              generalize at4 W (1 + i) = V at *
              generalize atoiV V = z at *
              go_wp2_with (go_at_call 31; refine C1.out.mono ?_; rintro e w5 ⟨x5, rfl, hb5⟩; have cx := ((HX.out.later hb5).cell (1 + i)).trans HCx.out; have fx := Blk.free (HX.out.later hb5) (1 + i))
              go_roundw
              case rel =>
                have hs1 := Hgx.out
                have hs2' := Hgp.out
                refine ⟨i + 1, o2, by omega, Hm2.out.2, by rw [Hm2.out.1], Ho2.out, by go_num, ?_, (HU.out.later hb5).setCell_ne (by simp only; omega) _, (HR.out.later hb5).setCell_ne (by simp only; omega) _, (HS.out.later hb5).setCell_ne (by simp only; omega) _, (HP.out.later hb5).setCell_ne (by simp only; omega) _, (bth HB.out hb5).setCell (p := ⟨gx, 1 + i, none⟩) (by simp only; omega) _⟩
                rw [← HSx.out]
                exact (HX.out.later hb5).setCell (1 + i) _
              case measure => simp [intOf]; omega
          · obtain rfl : i = N := by omega
            have u2 : wr.cell? ⟨gu, 2, none⟩ = some (.bool (textT k)) := HU.out.cell 2
            cases hT : textT k with
            | false =>
              rw [hT] at u2
              have HP0 := hid (progP_none W k (.inl hT))
              rw [HNk.out] at HP0
              go_upto_region 19 with fail
              refine wp_world (fun W' => Blk W' gx (progP W k).cs 28 ∧ Blk W' w.heap.size zeroStp 28 ∧ Below w.heap.size w W') ⟨by rw [HP0.out]; exact HX.out, HR.out, HB.out⟩ ?_
              rintro wz ⟨hXz, hRz, hBz⟩
              have HXf := hid hXz; have HRf := hid hRz; have HBf := hid hBz
              clear hXz hRz hBz
              have HE := hid (step_sees s k Hk.out.1 Hk.out.2)
              rw [HW.out.1] at HE
              have HXo := hid (progP_ok W k Hk.out.1)
              have L1 := hid (fun w9 h9 => line_any (progP W k) w9 ⟨HXo.out.a, HXo.out.b, HXo.out.c⟩ (progP_text W k s.length HWl.out hs2) h9)
              have HXs := hid (show (Tryd.prog.info? 28).map (·.size) = some (progP W k).cs.size from Tryd.sizeStep)
              have HX1 := hid (stp_one (progP W k))
              have HXv := hid (show (progP W k).v = .agg (progP W k).cs from rfl)
              unfold Stp.v at L1
              have HXz := hid (show (progP W k).cs.size = 5 from rfl)
              obtain ⟨LX, hLX⟩ : ∃ L, lineL (progP W k) = L := ⟨_, rfl⟩
              obtain ⟨cx, hXX⟩ : ∃ c, (progP W k).cs = c := ⟨_, rfl⟩
              rw [hLX] at L1 HE
              rw [hXX] at L1 HXs HX1 HXz HXf
              have HXv2 := hid (show (progP W k).v = .agg cx from by rw [HXv.out, hXX])
              have HLX := hid hLX
              clear hLX hXX HXv
              have hs9 : ¬ 9223372036854775807 < s.length + 1 := by omega
              refine wp_region_anyw (by kernel_rfl) ?_
              intro x0 he0 hb0
              have HX0 := hid (HXf.out.later hb0); have HR0 := hid (HRf.out.later hb0); have HB0 := hid (bth HBf.out hb0)
              clear he0 hb0
              refine wpAny_of_C (C := fun w' => Blk w' gx cx 28) _ _ _ _ ?_
              show wpAnyC _ _ _ _ _ 8 #[false, false, false, false, false, false, false, false] _ _
              refine wpAnyC_segN (fuel := 6) 2 0 (by kernel_rfl) (fun _ _ d _ _ h => by cases d <;> exact h) (by kernel_rfl) (by as_aux_lemma => kernel_rfl) ?_
              simp only [List.take_succ_cons, List.take_zero, List.drop_succ_cons, List.drop_zero]
              repeat (first
                | go_big_quiet_skip
                | (refine wpQuiet_load_aggG rfl 28 _ rfl ⟨gx, 0, none⟩ rfl cx _ (fun w' hw' => Blk.cells hw') Tryd.underlying28 rfl HXs.out ?_; simp only [Act.put, List.setIfInBounds_toArray, List.set_cons_succ, List.set_cons_zero]))
              refine wpQuiet_nil ?_
              simp only [segL, List.setIfInBounds_toArray, List.set_cons_succ, List.set_cons_zero]
              refine wpAnyC_segN (fuel := 4) 2 3 (by kernel_rfl) (fun _ _ d _ _ h => by cases d <;> exact h) (by kernel_rfl) (by as_aux_lemma => kernel_rfl) ?_
              simp only [List.take_succ_cons, List.take_zero, List.drop_succ_cons, List.drop_zero]
              repeat (first
                | go_big_quiet_skip
                | (go_big_quiet_want; go_big_quiet_op; first | go_big_quiet_on | (refine ⟨_, fun _ _ => rfl, ?_⟩; go_big_quiet_on)))
              refine wpQuiet_nil ?_
              simp only [segL, List.setIfInBounds_toArray, List.set_cons_succ, List.set_cons_zero]
              refine wpAnyC_forced (i := 2) (by kernel_rfl) rfl (HX0.out) ?_
              (first | dsimp only [List.getElem_toArray, List.getElem_cons_succ, List.getElem_cons_zero] | dsimp (maxSteps := 10000000) only [List.getElem_toArray, List.getElem_cons_succ, List.getElem_cons_zero] | skip); (first | go_frame | simp (maxSteps := 10000000) only [Act.put, List.setIfInBounds_toArray, List.set_cons_succ, List.set_cons_zero] | skip)
              go_wp2_with (go_at_call 14; refine (L1.out _ (HG.out.later HB0.out)).mono ?_; rintro e w5 ⟨rfl, hb5⟩)
              show wpAnyC _ _ _ _ _ _ _ _ _
              (first | dsimp only [List.getElem_toArray, List.getElem_cons_succ, List.getElem_cons_zero] | dsimp (maxSteps := 10000000) only [List.getElem_toArray, List.getElem_cons_succ, List.getElem_cons_zero] | skip); (first | go_frame | simp (maxSteps := 10000000) only [Act.put, List.setIfInBounds_toArray, List.set_cons_succ, List.set_cons_zero] | skip)
              have HX5 := hid (HX0.out.later hb5); have HR5 := hid (HR0.out.later hb5); have HB5 := hid (bth HB0.out hb5)
              refine wpAnyC_segN (fuel := 2) 1 5 (by kernel_rfl) (fun _ _ d _ _ h => by cases d <;> exact h) (by kernel_rfl) (by as_aux_lemma => kernel_rfl) ?_
              simp only [List.take_succ_cons, List.take_zero, List.drop_succ_cons, List.drop_zero]
              repeat (first
                | go_big_quiet_skip
                | (go_big_quiet_want; go_big_quiet_op; first | go_big_quiet_on | (refine ⟨_, fun _ _ => rfl, ?_⟩; go_big_quiet_on)))
              refine wpQuiet_nil ?_
              simp only [segL, List.setIfInBounds_toArray, List.set_cons_succ, List.set_cons_zero]
              refine wpAnyC_forced (i := 6) (by kernel_rfl) rfl (HX5.out) ?_
              (first | dsimp only [List.getElem_toArray, List.getElem_cons_succ, List.getElem_cons_zero] | dsimp (maxSteps := 10000000) only [List.getElem_toArray, List.getElem_cons_succ, List.getElem_cons_zero] | skip); (first | go_frame | simp (maxSteps := 10000000) only [Act.put, List.setIfInBounds_toArray, List.set_cons_succ, List.set_cons_zero] | skip)
              refine wpList_store_blk rfl 28 _ _ rfl w.heap.size rfl cx rfl _ 28 HR5.out (by rw [HXz.out]; rfl) HXs.out HX1.out ?_
              refine wpList_nil ?_
              show wpAnyC _ _ _ _ _ _ _ _ _
              (first | dsimp only [List.getElem_toArray, List.getElem_cons_succ, List.getElem_cons_zero] | dsimp (maxSteps := 10000000) only [List.getElem_toArray, List.getElem_cons_succ, List.getElem_cons_zero] | skip); (first | go_frame | simp (maxSteps := 10000000) only [Act.put, List.setIfInBounds_toArray, List.set_cons_succ, List.set_cons_zero] | skip)
              have HX6 := hid (HX5.out.setRow_ne (cs' := cx) (show gx ≠ w.heap.size by have := Hgx.out; omega))
              have HR6 := hid (HR5.out.setRow (cs' := cx))
              have HB6 := hid (HB5.out.setRow (g := w.heap.size) (Nat.le_refl _) cx)
              clear HX5 HR5 HB5 HX0 HR0 HB0 hb5
              refine wpAnyC_forced (i := 7) (by kernel_rfl) rfl (HX6.out) ?_
              (first | dsimp only [List.getElem_toArray, List.getElem_cons_succ, List.getElem_cons_zero] | dsimp (maxSteps := 10000000) only [List.getElem_toArray, List.getElem_cons_succ, List.getElem_cons_zero] | skip); (first | go_frame | simp (maxSteps := 10000000) only [Act.put, List.setIfInBounds_toArray, List.set_cons_succ, List.set_cons_zero] | skip)
              go_wp2_with fail
              show wpAnyC _ _ _ _ _ _ _ _ _
              (first | dsimp only [List.getElem_toArray, List.getElem_cons_succ, List.getElem_cons_zero] | dsimp (maxSteps := 10000000) only [List.getElem_toArray, List.getElem_cons_succ, List.getElem_cons_zero] | skip); (first | go_frame | simp (maxSteps := 10000000) only [Act.put, List.setIfInBounds_toArray, List.set_cons_succ, List.set_cons_zero] | skip)
              refine wpAnyC_done (by kernel_rfl) HX6.out ?_ _
              go_wp2_with fail
              refine bodyPost_ret (results_cell2 rfl _ w.heap.size 28 cx (0, 0) _ rfl HR6.out Tryd.underlying28 rfl HXs.out) rfl ⟨⟨progP W k, ?_, fun h => ⟨HXo.out, ?_⟩⟩, HB6.out⟩
              · rw [← HE.out, HXv2.out]; rfl
              · rw [HLX.out]; rw [← HE.out] at h; simpa using h
            | true =>
              rw [hT] at u2
              by_cases hz : n - 1 - i = 0
              · rw [hz]
                have HP0 := hid (progP_none W k (.inr (by rw [HNk.out, Hn.out]; omega)))
                rw [HNk.out] at HP0
                go_upto_region 19 with fail
                refine wp_world (fun W' => Blk W' gx (progP W k).cs 28 ∧ Blk W' w.heap.size zeroStp 28 ∧ Below w.heap.size w W') ⟨by rw [HP0.out]; exact HX.out, HR.out, HB.out⟩ ?_
                rintro wz ⟨hXz, hRz, hBz⟩
                have HXf := hid hXz; have HRf := hid hRz; have HBf := hid hBz
                clear hXz hRz hBz
                have HE := hid (step_sees s k Hk.out.1 Hk.out.2)
                rw [HW.out.1] at HE
                have HXo := hid (progP_ok W k Hk.out.1)
                have L1 := hid (fun w9 h9 => line_any (progP W k) w9 ⟨HXo.out.a, HXo.out.b, HXo.out.c⟩ (progP_text W k s.length HWl.out hs2) h9)
                have HXs := hid (show (Tryd.prog.info? 28).map (·.size) = some (progP W k).cs.size from Tryd.sizeStep)
                have HX1 := hid (stp_one (progP W k))
                have HXv := hid (show (progP W k).v = .agg (progP W k).cs from rfl)
                unfold Stp.v at L1
                have HXz := hid (show (progP W k).cs.size = 5 from rfl)
                obtain ⟨LX, hLX⟩ : ∃ L, lineL (progP W k) = L := ⟨_, rfl⟩
                obtain ⟨cx, hXX⟩ : ∃ c, (progP W k).cs = c := ⟨_, rfl⟩
                rw [hLX] at L1 HE
                rw [hXX] at L1 HXs HX1 HXz HXf
                have HXv2 := hid (show (progP W k).v = .agg cx from by rw [HXv.out, hXX])
                have HLX := hid hLX
                clear hLX hXX HXv
                have hs9 : ¬ 9223372036854775807 < s.length + 1 := by omega
                refine wp_region_anyw (by kernel_rfl) ?_
                intro x0 he0 hb0
                have HX0 := hid (HXf.out.later hb0); have HR0 := hid (HRf.out.later hb0); have HB0 := hid (bth HBf.out hb0)
                clear he0 hb0
                refine wpAny_of_C (C := fun w' => Blk w' gx cx 28) _ _ _ _ ?_
                show wpAnyC _ _ _ _ _ 8 #[false, false, false, false, false, false, false, false] _ _
                refine wpAnyC_segN (fuel := 6) 2 0 (by kernel_rfl) (fun _ _ d _ _ h => by cases d <;> exact h) (by kernel_rfl) (by as_aux_lemma => kernel_rfl) ?_
                simp only [List.take_succ_cons, List.take_zero, List.drop_succ_cons, List.drop_zero]
                repeat (first
                  | go_big_quiet_skip
                  | (refine wpQuiet_load_aggG rfl 28 _ rfl ⟨gx, 0, none⟩ rfl cx _ (fun w' hw' => Blk.cells hw') Tryd.underlying28 rfl HXs.out ?_; simp only [Act.put, List.setIfInBounds_toArray, List.set_cons_succ, List.set_cons_zero]))
                refine wpQuiet_nil ?_
                simp only [segL, List.setIfInBounds_toArray, List.set_cons_succ, List.set_cons_zero]
                refine wpAnyC_segN (fuel := 4) 2 3 (by kernel_rfl) (fun _ _ d _ _ h => by cases d <;> exact h) (by kernel_rfl) (by as_aux_lemma => kernel_rfl) ?_
                simp only [List.take_succ_cons, List.take_zero, List.drop_succ_cons, List.drop_zero]
                repeat (first
                  | go_big_quiet_skip
                  | (go_big_quiet_want; go_big_quiet_op; first | go_big_quiet_on | (refine ⟨_, fun _ _ => rfl, ?_⟩; go_big_quiet_on)))
                refine wpQuiet_nil ?_
                simp only [segL, List.setIfInBounds_toArray, List.set_cons_succ, List.set_cons_zero]
                refine wpAnyC_forced (i := 2) (by kernel_rfl) rfl (HX0.out) ?_
                (first | dsimp only [List.getElem_toArray, List.getElem_cons_succ, List.getElem_cons_zero] | dsimp (maxSteps := 10000000) only [List.getElem_toArray, List.getElem_cons_succ, List.getElem_cons_zero] | skip); (first | go_frame | simp (maxSteps := 10000000) only [Act.put, List.setIfInBounds_toArray, List.set_cons_succ, List.set_cons_zero] | skip)
                go_wp2_with (go_at_call 14; refine (L1.out _ (HG.out.later HB0.out)).mono ?_; rintro e w5 ⟨rfl, hb5⟩)
                show wpAnyC _ _ _ _ _ _ _ _ _
                (first | dsimp only [List.getElem_toArray, List.getElem_cons_succ, List.getElem_cons_zero] | dsimp (maxSteps := 10000000) only [List.getElem_toArray, List.getElem_cons_succ, List.getElem_cons_zero] | skip); (first | go_frame | simp (maxSteps := 10000000) only [Act.put, List.setIfInBounds_toArray, List.set_cons_succ, List.set_cons_zero] | skip)
                have HX5 := hid (HX0.out.later hb5); have HR5 := hid (HR0.out.later hb5); have HB5 := hid (bth HB0.out hb5)
                refine wpAnyC_segN (fuel := 2) 1 5 (by kernel_rfl) (fun _ _ d _ _ h => by cases d <;> exact h) (by kernel_rfl) (by as_aux_lemma => kernel_rfl) ?_
                simp only [List.take_succ_cons, List.take_zero, List.drop_succ_cons, List.drop_zero]
                repeat (first
                  | go_big_quiet_skip
                  | (go_big_quiet_want; go_big_quiet_op; first | go_big_quiet_on | (refine ⟨_, fun _ _ => rfl, ?_⟩; go_big_quiet_on)))
                refine wpQuiet_nil ?_
                simp only [segL, List.setIfInBounds_toArray, List.set_cons_succ, List.set_cons_zero]
                refine wpAnyC_forced (i := 6) (by kernel_rfl) rfl (HX5.out) ?_
                (first | dsimp only [List.getElem_toArray, List.getElem_cons_succ, List.getElem_cons_zero] | dsimp (maxSteps := 10000000) only [List.getElem_toArray, List.getElem_cons_succ, List.getElem_cons_zero] | skip); (first | go_frame | simp (maxSteps := 10000000) only [Act.put, List.setIfInBounds_toArray, List.set_cons_succ, List.set_cons_zero] | skip)
                refine wpList_store_blk rfl 28 _ _ rfl w.heap.size rfl cx rfl _ 28 HR5.out (by rw [HXz.out]; rfl) HXs.out HX1.out ?_
                refine wpList_nil ?_
                show wpAnyC _ _ _ _ _ _ _ _ _
                (first | dsimp only [List.getElem_toArray, List.getElem_cons_succ, List.getElem_cons_zero] | dsimp (maxSteps := 10000000) only [List.getElem_toArray, List.getElem_cons_succ, List.getElem_cons_zero] | skip); (first | go_frame | simp (maxSteps := 10000000) only [Act.put, List.setIfInBounds_toArray, List.set_cons_succ, List.set_cons_zero] | skip)
                have HX6 := hid (HX5.out.setRow_ne (cs' := cx) (show gx ≠ w.heap.size by have := Hgx.out; omega))
                have HR6 := hid (HR5.out.setRow (cs' := cx))
                have HB6 := hid (HB5.out.setRow (g := w.heap.size) (Nat.le_refl _) cx)
                clear HX5 HR5 HB5 HX0 HR0 HB0 hb5
                refine wpAnyC_forced (i := 7) (by kernel_rfl) rfl (HX6.out) ?_
                (first | dsimp only [List.getElem_toArray, List.getElem_cons_succ, List.getElem_cons_zero] | dsimp (maxSteps := 10000000) only [List.getElem_toArray, List.getElem_cons_succ, List.getElem_cons_zero] | skip); (first | go_frame | simp (maxSteps := 10000000) only [Act.put, List.setIfInBounds_toArray, List.set_cons_succ, List.set_cons_zero] | skip)
                go_wp2_with fail
                show wpAnyC _ _ _ _ _ _ _ _ _
                (first | dsimp only [List.getElem_toArray, List.getElem_cons_succ, List.getElem_cons_zero] | dsimp (maxSteps := 10000000) only [List.getElem_toArray, List.getElem_cons_succ, List.getElem_cons_zero] | skip); (first | go_frame | simp (maxSteps := 10000000) only [Act.put, List.setIfInBounds_toArray, List.set_cons_succ, List.set_cons_zero] | skip)
                refine wpAnyC_done (by kernel_rfl) HX6.out ?_ _
                go_wp2_with fail
                refine bodyPost_ret (results_cell2 rfl _ w.heap.size 28 cx (0, 0) _ rfl HR6.out Tryd.underlying28 rfl HXs.out) rfl ⟨⟨progP W k, ?_, fun h => ⟨HXo.out, ?_⟩⟩, HB6.out⟩
                · rw [← HE.out, HXv2.out]; rfl
                · rw [HLX.out]; rw [← HE.out] at h; simpa using h
              · obtain ⟨m, hm⟩ : ∃ m, n - 1 - i = m := ⟨_, rfl⟩
                have hmI : (0 : Int) < (m : Int) := by omega
                have hm0 : ¬ m = 0 := by omega
                have hm1 : 0 < m := by omega
                have hoe : o = 1 + i := Ho.out (by omega)
                have hlW : 1 + i < W.length := by rw [Hn.out]; omega
                have cw : wr.cell? ⟨gs, o, none⟩ = some (sv (at4 W (1 + i))) := by
                  rw [HS.out.cell o, hoe]
                  unfold at4
                  rw [List.getD_eq_getElem?_getD, List.getElem?_eq_getElem hlW]
                  simp [List.getElem?_eq_getElem hlW]
                have hVl : (at4 W (1 + i)).length ≤ s.length := by
                  unfold at4
                  rw [List.getD_eq_getElem?_getD, List.getElem?_eq_getElem hlW]
                  exact HWl.out _ (List.getElem_mem hlW)
                have C1 := hid (unhex_any (at4 W (1 + i)) wr (by omega))
                have HP0 := hid (progP_text2 W k ⟨hT, by rw [HNk.out]; exact hlW⟩)
                rw [HNk.out] at HP0
                rw [hm]
                clear hz hoe hVl hlW hm hT
                obtain ⟨V, hV⟩ : ∃ V, at4 W (1 + i) = V := ⟨_, rfl⟩
                rw [hV] at cw C1 HP0
                clear hV
                obtain ⟨U, hU⟩ : ∃ U, unhexL V = U := ⟨_, rfl⟩
                rw [hU] at C1 HP0
                clear hU
                go_upto_region 19 with (go_at_call 32; refine C1.out.mono ?_; rintro e w5 ⟨rfl, hb5⟩; have cx := ((HX.out.later hb5).cell 4); have fx := Blk.free (HX.out.later hb5) 4; have cx : w5.cell? ⟨gx, 4, none⟩ = some (.string ⟨#[]⟩) := cx)
                refine wp_world (fun W' => Blk W' gx (progP W k).cs 28 ∧ Blk W' w.heap.size zeroStp 28 ∧ Below w.heap.size w W') ⟨by rw [← HP0.out]; exact (HX.out.later hb5).setCell 4 _, (HR.out.later hb5).setCell_ne (by have := Hgx.out; simp only; omega) _, (bth HB.out hb5).setCell (p := ⟨gx, 4, none⟩) (by have := Hgx.out; simp only; omega) _⟩ ?_
                rintro wz ⟨hXz, hRz, hBz⟩
                have HXf := hid hXz; have HRf := hid hRz; have HBf := hid hBz
                clear hXz hRz hBz
                have HE := hid (step_sees s k Hk.out.1 Hk.out.2)
                rw [HW.out.1] at HE
                have HXo := hid (progP_ok W k Hk.out.1)
                have L1 := hid (fun w9 h9 => line_any (progP W k) w9 ⟨HXo.out.a, HXo.out.b, HXo.out.c⟩ (progP_text W k s.length HWl.out hs2) h9)
                have HXs := hid (show (Tryd.prog.info? 28).map (·.size) = some (progP W k).cs.size from Tryd.sizeStep)
                have HX1 := hid (stp_one (progP W k))
                have HXv := hid (show (progP W k).v = .agg (progP W k).cs from rfl)
                unfold Stp.v at L1
                have HXz := hid (show (progP W k).cs.size = 5 from rfl)
                obtain ⟨LX, hLX⟩ : ∃ L, lineL (progP W k) = L := ⟨_, rfl⟩
                obtain ⟨cx, hXX⟩ : ∃ c, (progP W k).cs = c := ⟨_, rfl⟩
                rw [hLX] at L1 HE
                rw [hXX] at L1 HXs HX1 HXz HXf
                have HXv2 := hid (show (progP W k).v = .agg cx from by rw [HXv.out, hXX])
                have HLX := hid hLX
                clear hLX hXX HXv
                have hs9 : ¬ 9223372036854775807 < s.length + 1 := by omega
                refine wp_region_anyw (by kernel_rfl) ?_
                intro x0 he0 hb0
                have HX0 := hid (HXf.out.later hb0); have HR0 := hid (HRf.out.later hb0); have HB0 := hid (bth HBf.out hb0)
                clear he0 hb0
                refine wpAny_of_C (C := fun w' => Blk w' gx cx 28) _ _ _ _ ?_
                show wpAnyC _ _ _ _ _ 8 #[false, false, false, false, false, false, false, false] _ _
                refine wpAnyC_segN (fuel := 6) 2 0 (by kernel_rfl) (fun _ _ d _ _ h => by cases d <;> exact h) (by kernel_rfl) (by as_aux_lemma => kernel_rfl) ?_
                simp only [List.take_succ_cons, List.take_zero, List.drop_succ_cons, List.drop_zero]
                repeat (first
                  | go_big_quiet_skip
                  | (refine wpQuiet_load_aggG rfl 28 _ rfl ⟨gx, 0, none⟩ rfl cx _ (fun w' hw' => Blk.cells hw') Tryd.underlying28 rfl HXs.out ?_; simp only [Act.put, List.setIfInBounds_toArray, List.set_cons_succ, List.set_cons_zero]))
                refine wpQuiet_nil ?_
                simp only [segL, List.setIfInBounds_toArray, List.set_cons_succ, List.set_cons_zero]
                refine wpAnyC_segN (fuel := 4) 2 3 (by kernel_rfl) (fun _ _ d _ _ h => by cases d <;> exact h) (by kernel_rfl) (by as_aux_lemma => kernel_rfl) ?_
                simp only [List.take_succ_cons, List.take_zero, List.drop_succ_cons, List.drop_zero]
                repeat (first
                  | go_big_quiet_skip
                  | (go_big_quiet_want; go_big_quiet_op; first | go_big_quiet_on | (refine ⟨_, fun _ _ => rfl, ?_⟩; go_big_quiet_on)))
                refine wpQuiet_nil ?_
                simp only [segL, List.setIfInBounds_toArray, List.set_cons_succ, List.set_cons_zero]
                refine wpAnyC_forced (i := 2) (by kernel_rfl) rfl (HX0.out) ?_
                (first | dsimp only [List.getElem_toArray, List.getElem_cons_succ, List.getElem_cons_zero] | dsimp (maxSteps := 10000000) only [List.getElem_toArray, List.getElem_cons_succ, List.getElem_cons_zero] | skip); (first | go_frame | simp (maxSteps := 10000000) only [Act.put, List.setIfInBounds_toArray, List.set_cons_succ, List.set_cons_zero] | skip)
                go_wp2_with (go_at_call 14; refine (L1.out _ (HG.out.later HB0.out)).mono ?_; rintro e w5 ⟨rfl, hb5⟩)
                show wpAnyC _ _ _ _ _ _ _ _ _
                (first | dsimp only [List.getElem_toArray, List.getElem_cons_succ, List.getElem_cons_zero] | dsimp (maxSteps := 10000000) only [List.getElem_toArray, List.getElem_cons_succ, List.getElem_cons_zero] | skip); (first | go_frame | simp (maxSteps := 10000000) only [Act.put, List.setIfInBounds_toArray, List.set_cons_succ, List.set_cons_zero] | skip)
                have HX5 := hid (HX0.out.later hb5); have HR5 := hid (HR0.out.later hb5); have HB5 := hid (bth HB0.out hb5)
                refine wpAnyC_segN (fuel := 2) 1 5 (by kernel_rfl) (fun _ _ d _ _ h => by cases d <;> exact h) (by kernel_rfl) (by as_aux_lemma => kernel_rfl) ?_
                simp only [List.take_succ_cons, List.take_zero, List.drop_succ_cons, List.drop_zero]
                repeat (first
                  | go_big_quiet_skip
                  | (go_big_quiet_want; go_big_quiet_op; first | go_big_quiet_on | (refine ⟨_, fun _ _ => rfl, ?_⟩; go_big_quiet_on)))
                refine wpQuiet_nil ?_
                simp only [segL, List.setIfInBounds_toArray, List.set_cons_succ, List.set_cons_zero]
                refine wpAnyC_forced (i := 6) (by kernel_rfl) rfl (HX5.out) ?_
                (first | dsimp only [List.getElem_toArray, List.getElem_cons_succ, List.getElem_cons_zero] | dsimp (maxSteps := 10000000) only [List.getElem_toArray, List.getElem_cons_succ, List.getElem_cons_zero] | skip); (first | go_frame | simp (maxSteps := 10000000) only [Act.put, List.setIfInBounds_toArray, List.set_cons_succ, List.set_cons_zero] | skip)
                refine wpList_store_blk rfl 28 _ _ rfl w.heap.size rfl cx rfl _ 28 HR5.out (by rw [HXz.out]; rfl) HXs.out HX1.out ?_
                refine wpList_nil ?_
                show wpAnyC _ _ _ _ _ _ _ _ _
                (first | dsimp only [List.getElem_toArray, List.getElem_cons_succ, List.getElem_cons_zero] | dsimp (maxSteps := 10000000) only [List.getElem_toArray, List.getElem_cons_succ, List.getElem_cons_zero] | skip); (first | go_frame | simp (maxSteps := 10000000) only [Act.put, List.setIfInBounds_toArray, List.set_cons_succ, List.set_cons_zero] | skip)
                have HX6 := hid (HX5.out.setRow_ne (cs' := cx) (show gx ≠ w.heap.size by have := Hgx.out; omega))
                have HR6 := hid (HR5.out.setRow (cs' := cx))
                have HB6 := hid (HB5.out.setRow (g := w.heap.size) (Nat.le_refl _) cx)
                clear HX5 HR5 HB5 HX0 HR0 HB0 hb5
                refine wpAnyC_forced (i := 7) (by kernel_rfl) rfl (HX6.out) ?_
                (first | dsimp only [List.getElem_toArray, List.getElem_cons_succ, List.getElem_cons_zero] | dsimp (maxSteps := 10000000) only [List.getElem_toArray, List.getElem_cons_succ, List.getElem_cons_zero] | skip); (first | go_frame | simp (maxSteps := 10000000) only [Act.put, List.setIfInBounds_toArray, List.set_cons_succ, List.set_cons_zero] | skip)
                go_wp2_with fail
                show wpAnyC _ _ _ _ _ _ _ _ _
                (first | dsimp only [List.getElem_toArray, List.getElem_cons_succ, List.getElem_cons_zero] | dsimp (maxSteps := 10000000) only [List.getElem_toArray, List.getElem_cons_succ, List.getElem_cons_zero] | skip); (first | go_frame | simp (maxSteps := 10000000) only [Act.put, List.setIfInBounds_toArray, List.set_cons_succ, List.set_cons_zero] | skip)
                refine wpAnyC_done (by kernel_rfl) HX6.out ?_ _
                go_wp2_with fail
                refine bodyPost_ret (results_cell2 rfl _ w.heap.size 28 cx (0, 0) _ rfl HR6.out Tryd.underlying28 rfl HXs.out) rfl ⟨⟨progP W k, ?_, fun h => ⟨HXo.out, ?_⟩⟩, HB6.out⟩
                · rw [← HE.out, HXv2.out]; rfl
                · rw [HLX.out]; rw [← HE.out] at h; simpa using h
      · have hne : (wordT k == w0) = false := by simpa using hw
        have HNo2 := hid (show ∀ m, 1 ≤ m → m < k + 1 → wordT m ≠ w0 from fun m h1 h2 => by
          by_cases hm : m < k
          · exact HNo.out m h1 hm
          · rw [show m = k by omega]; exact hw)
        clear hw
        obtain ⟨T, hT⟩ : ∃ T, wordT k = T := ⟨_, rfl⟩
        rw [hT] at Q0 hne
        clear hT
        refine wp_region_later (by kernel_rfl) (by kernel_rfl) ?_
        repeat (first
          | go_big_quiet_skip
          | (refine wpQuiet_load_one rfl 9 _ rfl ⟨gu, 0, none⟩ rfl (sv T) _ (by rintro _ ⟨q, rfl⟩; exact Q0.out q) Tryd.underlying9 rfl ?_; simp only [Act.put, List.setIfInBounds_toArray, List.set_cons_succ, List.set_cons_zero])
          | (refine wpQuiet_load_one rfl 9 _ rfl ⟨gs, 0, none⟩ rfl (sv w0) _ (by rintro _ ⟨q, rfl⟩; exact Q1.out q) Tryd.underlying9 rfl ?_; simp only [Act.put, List.setIfInBounds_toArray, List.set_cons_succ, List.set_cons_zero])
          | (go_big_quiet_want; go_big_quiet_op; first | go_big_quiet_on | (refine ⟨_, fun _ _ => rfl, ?_⟩; go_big_quiet_on)))
        refine wpQuiet_nil ?_
        rintro _ ⟨q6, rfl⟩
        have hb6 := lat_below q6
        generalize lat q6 = w6 at *
        go_wp2
        go_roundw
        case rel => exact ⟨k + 1, by omega, by omega, rfl, by go_num, HNo2.out, HR2.out.later hb6, HS2.out.later hb6, bth HB2.out hb6⟩
        case measure => simp [intOf]; omega
    · have hkI : ¬ (k : Int) ≤ 13 := by omega
      have hd : decide ((k : Int) ≤ 13) = false := decide_eq_false hkI
      obtain rfl : k = 14 := by omega
      have HE := hid (step_none s (fun m h1 h2 => by rw [HW.out.1, HW.out.2]; exact HNo.out m h1 h2))
      clear hkI hlt
      go_wp2_with ((with_reducible show wpList _ _ _ ({ dst := _, op := Op.store _ _ _, type := _, pos := _, after := _, guard := _ } :: _) _ _); refine wpList_store_blk rfl 28 _ _ rfl w.heap.size rfl zeroStp rfl _ 28 HR.out rfl Tryd.sizeStep zeroStp_one ?_)
      have HR9 := hid (HR.out.setRow (cs' := zeroStp))
      have HB9 := hid (HB.out.setRow (g := w.heap.size) (by omega) zeroStp)
      refine bodyPost_ret (results_cell2 rfl _ w.heap.size 28 zeroStp (0, 0) _ rfl HR9.out Tryd.underlying28 rfl Tryd.sizeStep) rfl ⟨⟨⟨0, 0, 0, 0, []⟩, ?_, fun h => ?_⟩, HB9.out⟩
      · rw [HE.out]; rfl
      · rw [HE.out] at h; cases h
end Go.Proofs.YtdefipnmjfnpeaaDoor
