/- the law ServeProves: the walk (err6) -/
import Derived.Test.YtbpjlancjdbehaaDoorQServed
import Derived.Test.YtbpjlancjdbehaaDoorQSrvPrvK

set_option maxRecDepth 100000
namespace Go.Proofs.YtbpjlancjdbehaaDoor
open Go.RowKit Go.Spec
set_option maxHeartbeats 16000000 in
theorem serveProves_err6 (v : Value) (es : List (List UInt8)) (r : Rq) (n : Nat) (w : World) (hS : StrsAt w v es) (hlm : es.length ≤ 9223372036854775807) (hi : RqI r) (hn : n < 256) (hG : ShaG w) (hsel : ¬ ((n % (es.length + 1) : Nat) : Int) < (nearR r).size ∧ (nearR r).fr < (nearR r).size ∧ (nearR r).kind = 2 ∧ (¬ (nearR r).count < 1 ∧ ¬ 16 < (nearR r).count ∧ (nearR r).size < (nearR r).fr + (nearR r).count)) :
    Calls Tryd.prog 9 #[v, r.v, .int .u8 (n : Int)] w fun e w' => e = .returned (.bool true) ∧ Below w.heap.size w w' := by
  have HG := hid hG; have HS := hid hS; have HI := hid hi; have HSel := hid hsel; clear hsel
  have SD := hid served_any
  obtain ⟨ea, eac, rfl, _⟩ := hS.form
  clear hS hi hG
  by_cases h40 : 40 < es.length
  · have hd : decide ((40 : Int) < (es.length : Int)) = true := decide_eq_true (by omega)
    go_enter Tryd.func9, Tryd.ntmps9
    go_upto_region 1 with fail
    refine wp_world (fun W => Below w.heap.size w W) ((Below.refl _ w).alloc (Nat.le_refl _) _) ?_
    intro w0 hB
    have HB := hid hB; clear hB
    go_wp2_with (go_at_call 29; refine (SD.out _ (HG.out.later HB.out)).mono ?_; rintro e w1 ⟨rfl, hb1⟩)
    go_ret
    exact ⟨rfl, bth HB.out hb1⟩
  · have hd : decide ((40 : Int) < (es.length : Int)) = false := decide_eq_false (by omega)
    have hl40 : es.length ≤ 40 := by omega
    clear h40
    go_enter Tryd.func9, Tryd.ntmps9
    go_upto_region 1 with fail
    refine wp_world (fun W => Blk W w.heap.size r.cs 61 ∧ Below w.heap.size w W) ⟨Blk.new _ _ _, (Below.refl _ w).alloc (Nat.le_refl _) _⟩ ?_
    rintro w0 ⟨hR, hB⟩
    have HR0 := hid hR; have HB0 := hid hB; clear hR hB
    go_upto_region 4 with fail
    go_loopw [7] (fun i wr => ∃ k : Nat, k ≤ es.length ∧ i = .int .i64 k ∧ (∀ t ∈ es.take k, t.length ≤ 200) ∧ wr = w0) (fun i _ => es.length - (intOf i).toNat)
    case atStart => exact ⟨0, by omega, rfl, by simp, rfl⟩
    case round =>
      obtain ⟨k, hk, rfl, htk, rfl⟩ := hrel
      have Htk := hid htk; clear htk
      by_cases hlt : k < es.length
      · obtain ⟨b, o, rfl, hbl, hcell⟩ := HS.out.at hlt
        have hkI : (k : Int) < (es.length : Int) := by omega
        have Htk2 := hid (show es.take (k + 1) = es.take k ++ [es[k]] from List.take_succ_eq_append_getElem hlt)
        have hcell0 : wr.cell? ⟨b, o + k, none⟩ = some (sv es[k]) := (HB0.out.cell (p := ⟨b, o + k, none⟩) hbl).trans hcell
        generalize es[k] = t at *
        clear hcell
        by_cases h3 : t.length ≤ 200
        · have d1 : decide ((200 : Int) < (t.length : Int)) = false := decide_eq_false (by omega)
          have H3 := hid h3; clear h3
          go_wp2
          go_roundw
          case rel =>
            refine ⟨k + 1, by omega, by go_num, ?_, trivial⟩
            rw [Htk2.out]
            intro y hy
            rw [List.mem_append, List.mem_singleton] at hy
            rcases hy with hy | rfl
            · exact Htk.out y hy
            · exact H3.out
          case measure => simp [intOf]; omega
        · have d1 : decide ((200 : Int) < (t.length : Int)) = true := decide_eq_true (by omega)
          clear h3
          go_wp2_with (go_at_call 29; refine (SD.out _ (HG.out.later HB0.out)).mono ?_; rintro e w1 ⟨rfl, hb1⟩)
          go_ret
          exact ⟨rfl, bth HB0.out hb1⟩
      · obtain rfl : k = es.length := by omega
        have H2 := hid (show ∀ t ∈ es, t.length ≤ 200 by have := Htk.out; rw [List.take_length] at this; exact this)
        clear hlt Htk
        go_upto_region 8 with fail
        go_cut [8] (fun p wx => ∃ M : Nat, p = .int .i64 (M : Int) ∧ M ≤ es.length ∧ wr = wx ∧ n % (es.length + 1) = M)
        case first =>
          go_wp2_with fail
          go_meet
          exact ⟨n % (es.length + 1), by go_num, Nat.le_of_lt_succ (Nat.mod_lt _ (by omega)), rfl, rfl⟩
        case rest =>
          obtain ⟨M, rfl, hM, rfl, hMe⟩ := hcut
          rw [hMe] at HSel
          clear hMe
          have LG := hid (fun w' h0 h1 => log_any (.slice ea es.length eac) es (M : Int) w' h0 (by omega) (fun t ht => by have := H2.out t ht; omega) h1)
          go_upto_region 10 with (first
            | (go_at_call 37; refine (LG.out _ (HS.out.below HB0.out) (HG.out.later HB0.out)).mono ?_; rintro e w1 ⟨ve, vl, vh, vf, rfl, hin, hb1⟩)
            | ((with_reducible show wpList _ _ _ ({ dst := _, op := Op.store _ _ _, type := _, pos := _, after := _, guard := _ } :: _) _ _); refine wpList_store_newA rfl 59 _ _ rfl rfl (srcC ve vl vh vf) rfl _ 59 rfl Tryd.sizeSrc (srcC_one _ _ _ _ (SlAt.oneS hin.entries) (SlAt.oneS hin.leaves) (SlAt.oneS hin.head.at_) (SlAt.oneS hin.fork.at_)) ?_))
          refine wp_world (fun W => PrvW w W w1.heap.size (logS es (M : Int)) ve vl vh vf [logD (M : Int)] [] r) ⟨Blk.new _ _ _, hin.below ((Below.refl _ w1).alloc (Nat.le_refl _) _), (bth HB0.out hb1).alloc (bth HB0.out hb1).size _, (HR0.out.later hb1).alloc _, (HR0.out.later hb1).lt⟩ ?_
          intro y0 hW
          have HW0 := hid hW
          clear hW hin hb1 LG HB0 HR0
          generalize w1.heap.size = g1 at *
          obtain ⟨c0, c1, c2, c3, c4⟩ := HW0.out.cell
          have f1 : y0.frozen? ⟨w.heap.size, 1, none⟩ = false := Blk.free HW0.out.r 1
          go_upto_region 11 with fail
          rw [near_kind r]
          refine wp_world (fun W => PrvW w W g1 (logS es (M : Int)) ve vl vh vf [logD (M : Int)] [] ⟨r.id, (nearR r).kind, r.fr, r.count, r.size⟩) (HW0.out.set 1 _ rfl) ?_
          clear c0 c1 c2 c3 c4 f1 HW0
          clear y0
          intro y1 hW
          have HW1 := hid hW; clear hW
          obtain ⟨c0, c1, c2, c3, c4⟩ := HW1.out.cell
          have f2 : y1.frozen? ⟨w.heap.size, 2, none⟩ = false := Blk.free HW1.out.r 2
          have f3 : y1.frozen? ⟨w.heap.size, 3, none⟩ = false := Blk.free HW1.out.r 3
          have f4 : y1.frozen? ⟨w.heap.size, 4, none⟩ = false := Blk.free HW1.out.r 4
          simp only at c0 c1 c2 c3 c4
          go_upto_region 12 with fail
          rw [i64_and63 r.fr, i64_and63 r.size, i64_and31 r.count]
          refine wp_world (fun W => PrvW w W g1 (logS es (M : Int)) ve vl vh vf [logD (M : Int)] [] (nearR r)) (((HW1.out.set (q' := ⟨r.id, (nearR r).kind, r.fr % 64, r.count, r.size⟩) 2 _ rfl).set (q' := ⟨r.id, (nearR r).kind, r.fr % 64, r.count, r.size % 64⟩) 4 _ rfl).set (q' := nearR r) 3 _ rfl) ?_
          clear c0 c1 c2 c3 c4 f2 f3 f4 HW1
          clear y1
          intro y2 hW
          have HW2 := hid hW; clear hW
          have PX := prv_cases es M (nearR r) hM (nearR_in M r)
          have SX := hid (ansRp_small (logS es (M : Int)) (nearR r) (log_small es (M : Int) hl40 H2.out))
          have AN := hid (fun ve vl vh vf hd fd w' h0 h1 => answer_any (logS es (M : Int)) ve vl vh vf hd fd (nearR r) w' h0 (log_small es (M : Int) hl40 H2.out) (nearR_i r HI.out) h1)
          have hQI := nearR_in M r
          generalize nearR r = q at *
          generalize ansRp (logS es (M : Int)) q = X at *
          have hXid := PX.id
          have hput := prv_put es M q X hM hl40 H2.out PX
          have HPX := hid PX; clear PX
          have HPI := hid (show PrvIn M q from hQI)
          have MO := hid (fun vh ve vp ds w0 h0 => msgof_any X vh ve vp ds w0 h0 SX.out)
          rw [hput] at MO
          clear hput
          go_upto_region 13 with (first
            | ((with_reducible show wpList _ _ _ ({ dst := _, op := Op.load 59 _, type := _, pos := _, after := _, guard := _ } :: _) _ _); refine wpList_load_blk rfl 59 _ rfl g1 rfl 59 (srcC ve vl vh vf) _ HW2.out.x Tryd.underlying59 rfl Tryd.sizeSrc ?_)
            | ((with_reducible show wpList _ _ _ ({ dst := _, op := Op.load 61 _, type := _, pos := _, after := _, guard := _ } :: _) _ _); refine wpList_load_blk rfl 61 _ rfl w.heap.size rfl 61 q.cs _ HW2.out.r Tryd.underlying61 rfl Tryd.sizeRqT ?_)
            | (go_at_call 33; refine (AN.out ve vl vh vf _ _ _ HW2.out.i (HG.out.later HW2.out.b)).mono ?_; rintro e v0 ⟨xh, xe, xp, xd, rfl, hin0, hb0⟩)
            | ((with_reducible show wpList _ _ _ ({ dst := _, op := Op.store _ _ _, type := _, pos := _, after := _, guard := _ } :: _) _ _); refine wpList_store_newA rfl 68 _ _ rfl rfl (rpC X xh xe xp) rfl _ 68 rfl Tryd.sizeRpS hin0.ones ?_))
          refine wp_world (fun W => PrvW w W g1 (logS es (M : Int)) ve vl vh vf [logD (M : Int)] [] q ∧ RpIn W X xh xe xp xd ∧ Blk W v0.heap.size (rpC X xh xe xp) 68) ⟨(HW2.out.later hb0).later ((Below.refl _ v0).alloc (Nat.le_refl _) _), hin0.below ((Below.refl _ v0).alloc (Nat.le_refl _) _), Blk.new _ _ _⟩ ?_
          clear hin0 HW2 AN
          generalize v0.heap.size = g2 at *
          clear hb0
          clear v0
          rintro y3 ⟨hW, hI, hY⟩
          have HW3 := hid hW; have HI3 := hid hI; have HY3 := hid hY; clear hW hI hY
          go_upto_region 14 with (first
            | ((with_reducible show wpList _ _ _ ({ dst := _, op := Op.load 68 _, type := _, pos := _, after := _, guard := _ } :: _) _ _); refine wpList_load_blk rfl 68 _ rfl g2 rfl 68 (rpC X xh xe xp) _ HY3.out Tryd.underlying68 rfl Tryd.sizeRpS ?_)
            | (go_at_call 38; refine (MO.out _ _ _ _ _ HI3.out).mono ?_; rintro e y4 ⟨rfl, hb4⟩))
          have HW4 := hid (HW3.out.later hb4); have HI4 := hid (HI3.out.below hb4); have HY4 := hid (HY3.out.later hb4)
          clear HW3 HI3 HY3 hb4 MO
          obtain ⟨bz, hbz⟩ : ∃ bz, goodZ q.id = bz := ⟨_, rfl⟩
          rw [hbz]
          go_cut [84] (fun p wx => p = .bool false ∧ y4 = wx)
          case first =>
            have e0 : y4.cell? ⟨w.heap.size, 0, none⟩ = some (.int .i64 q.id) := HW4.out.cell.1
            have e1 : y4.cell? ⟨g2, 0, none⟩ = some (.int .i64 q.id) := by rw [HY4.out.cell 0, ← hXid]; rfl
            by_cases h0 : 0 ≤ q.id
            · by_cases h1 : q.id ≤ 1073741824
              · have hz : goodZ q.id = true := by simp [goodZ, h0, h1]
                have d0 : decide (0 ≤ q.id) = true := decide_eq_true h0
                have d1 : decide (q.id ≤ 1073741824) = true := decide_eq_true h1
                obtain rfl := hbz.symm.trans hz
                clear hz h0 h1
                go_wp2_with fail
                go_meet
                exact ⟨rfl, rfl⟩
              · have hz : goodZ q.id = false := by simp [goodZ, h1]
                have d0 : decide (0 ≤ q.id) = true := decide_eq_true h0
                have d1 : decide (q.id ≤ 1073741824) = false := decide_eq_false h1
                obtain rfl := hbz.symm.trans hz
                clear hz h0 h1
                go_wp2_with fail
                go_meet
                exact ⟨rfl, rfl⟩
            · have hz : goodZ q.id = false := by simp [goodZ, h0]
              have d0 : decide (0 ≤ q.id) = false := decide_eq_false h0
              obtain rfl := hbz.symm.trans hz
              clear hz h0
              go_wp2_with fail
              go_meet
              exact ⟨rfl, rfl⟩
          case rest =>
            obtain ⟨rfl, rfl⟩ := hcut
            clear hbz SX HI hd
            obtain ⟨hkk, ⟨hf1, hf2⟩, ⟨hc1, hc2⟩, ⟨hs1, hs2⟩⟩ := HPI.out
            clear HPI hkk hQI
            rcases HPX.out with ⟨c, hc, hX, he⟩ | ⟨a, c, s, hr, h1, h2, h3, h4, hX⟩ | ⟨a, c, s, hr, h3, h4, hX⟩ | ⟨a, c, s, hr, h3, h4, hX⟩
            · subst hX
              clear HPX hXid
              have e1 : y4.cell? ⟨g2, 1, none⟩ = some (.int .i64 1) := HY4.out.cell 1
              have e2 : y4.cell? ⟨g2, 2, none⟩ = some (.int .i64 c) := HY4.out.cell 2
              obtain ⟨-, c1, c2, c3, c4⟩ := HW4.out.cell
              obtain ⟨id, kd, fr, ct, sz⟩ := q
              simp only at c1 c2 c3 c4 hf1 hf2 hc1 hc2 hs1 hs2
              have h9 := HSel.out
              dsimp only at h9
              obtain ⟨h, h', hk, ⟨g, g', g''⟩⟩ := h9
              subst hk
              have d1 : decide ((M : Int) < sz) = false := decide_eq_false (by omega)
              have d2 : decide (sz ≤ fr) = false := decide_eq_false (by omega)
              clear h h'
              have d4 : decide (ct < 1) = false := decide_eq_false (by omega)
              have d5 : decide (16 < ct) = false := decide_eq_false (by omega)
              have d6 : decide (sz < fr + ct) = true := decide_eq_true (by omega)
              clear g g' g''
              rcases hc with rfl | rfl
              all_goals go_wp2_with (go_at_call 29; refine (SD.out _ (HG.out.later HW4.out.b)).mono ?_; rintro e w9 ⟨rfl, hb9⟩)
              all_goals go_ret
              all_goals exact ⟨rfl, bth HW4.out.b hb9⟩
            · exfalso
              have h9 := HSel.out
              obtain ⟨id, kd, fr, ct, sz⟩ := q
              simp only [Rq.mk.injEq, true_and] at hr
              obtain ⟨rfl, rfl, rfl, rfl⟩ := hr
              simp only at h9
              omega
            · exfalso
              have h9 := HSel.out
              obtain ⟨id, kd, fr, ct, sz⟩ := q
              simp only [Rq.mk.injEq, true_and] at hr
              obtain ⟨rfl, rfl, rfl, rfl⟩ := hr
              simp only at h9
              omega
            · exfalso
              have h9 := HSel.out
              obtain ⟨id, kd, fr, ct, sz⟩ := q
              simp only [Rq.mk.injEq, true_and] at hr
              obtain ⟨rfl, rfl, rfl, rfl⟩ := hr
              simp only at h9
              omega
end Go.Proofs.YtbpjlancjdbehaaDoor
