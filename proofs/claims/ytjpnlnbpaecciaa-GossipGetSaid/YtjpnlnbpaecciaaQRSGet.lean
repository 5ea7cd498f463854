/- the document's Get of a signed head -/
import Derived.Test.YtjpnlnbpaecciaaQSGet

set_option maxRecDepth 100000
namespace Go.Proofs.Ytjpnlnbpaecciaa
open Go.RowKit Go.Spec
set_option maxHeartbeats 40000000 in
theorem rsget_any (l : List UInt8) (w : World) (hl : l.length ≤ 1000000000) :
    Calls Try.prog 75 #[sv l] w fun e w' => SGA l e w w' := by
  have h1 := rdR_le l
  have h2 := unR_le (rdR l)
  have h3 := rdR_le (unR (rdR l))
  have h4 := cuR_le (rdR (unR (rdR l)))
  have h5 := cuT_le (rdR (unR (rdR l)))
  have C1 := hid (fun w0 => rread_gen l w0 (by omega))
  have C2 := hid (fun w0 => runhash_gen (rdR l) w0 (by omega))
  have C3 := hid (fun w0 => rread_gen (unR (rdR l)) w0 (by omega))
  have C4 := hid (fun w0 => rcut_gen (rdR (unR (rdR l))) w0 (by omega))
  have C5 := hid (fun w0 => runhashes_own (cuR (rdR (unR (rdR l)))) w0 (by omega))
  have hG := hid (show getS l = (if (sgP l).ok && (sgP l).r == [] && validB (sgP l).n (sgP l).i (sgP l).g (sgP l).p.length then some (sgP l).k else none) from rfl)
  have hdef := hid (show sgP l = ⟨rdN l, rdB l, unT (rdR l), unB (rdR l), rdN (unR (rdR l)), rdB (unR (rdR l)), cuT (rdR (unR (rdR l))), cuB (rdR (unR (rdR l))), usX (cuR (rdR (unR (rdR l)))), usB (cuR (rdR (unR (rdR l)))), usR (cuR (rdR (unR (rdR l))))⟩ from rfl)
  have hT := unT_len (rdR l)
  have hgl : (cuT (rdR (unR (rdR l)))).length ≤ 1000000000 := by omega
  have hpl := us_le (cuR (rdR (unR (rdR l))))
  have hNlt := rdN_lt l
  have hIlt := rdN_lt (unR (rdR l))
  have hback := hid (sgP_back l)
  generalize rdN l = N at *
  generalize hA : rdB l = A at *
  generalize unT (rdR l) = T at *
  generalize unB (rdR l) = B at *
  generalize rdN (unR (rdR l)) = I at *
  generalize rdB (unR (rdR l)) = C at *
  generalize cuT (rdR (unR (rdR l))) = G at *
  generalize cuB (rdR (unR (rdR l))) = D at *
  generalize usR (cuR (rdR (unR (rdR l)))) = R at *
  generalize usB (cuR (rdR (unR (rdR l)))) = E at *
  clear h1 h2 h3 h4 h5 hA
  generalize cuR (rdR (unR (rdR l))) = L4 at *
  generalize rdR (unR (rdR l)) = L3 at *
  generalize unR (rdR l) = L2 at *
  generalize rdR l = L1 at *
  have Hsz := hid (show (Try.prog.info? 34).map (·.size) = some T.length by rw [hT]; exact Try.sizeHash)
  have Hszc := hid (show (Try.prog.info? 34).map (·.size) = some (hc T).size by rw [hc_size, hT]; exact Try.sizeHash)
  have HT := hid hT; have Hpl := hid hpl
  have HNlt := hid hNlt; have HIlt := hid hIlt
  clear hNlt hIlt
  go_enter Try.func75, Try.ntmps75
  go_upto_region 1 with fail
  refine wp_name ?_
  intro Z w1 hZ hZB hb1 hw1
  have hZ36 : Z.size = 36 := hZ
  have HZB := hid hZB; have HZ := hid hZ36
  clear hZ hZ36 hZB
  have HB1 := hid hb1
  clear hb1 hw1
  go_upto_region 6 with (first
    | (go_at_call 73; (with_reducible refine (C1.out _).mono ?_); rintro e w2 ⟨rfl, hb2⟩)
    | (go_at_call 78; (with_reducible refine (C2.out _).mono ?_); rintro e w3 ⟨rfl, hb3⟩)
    | ((with_reducible show wpList _ _ _ ({ dst := _, op := Op.store _ _ _, type := _, pos := _, after := _, guard := _ } :: _) _ _); refine wpList_store_new rfl 34 _ _ rfl rfl T rfl _ 34 (by rw [HT.out]; rfl) Hsz.out ?_; have HB7 := hid (Blk.new w3 (hc T) 34))
    | (go_at_call 73; (with_reducible refine (C3.out _).mono ?_); rintro e w4 ⟨rfl, hb4⟩)
    | (go_at_call 74; (with_reducible refine (C4.out _).mono ?_); rintro e w5 ⟨rfl, hb5⟩)
    | (go_at_call 94; (with_reducible refine (C5.out _).mono ?_); rintro e w6 ⟨pa, pcap, rfl, hug, hfr⟩))
  have H3 := bth HB1.out (bth hb2 hb3)
  have HA4 := H3.alloc H3.size (.cells (hc T) 34)
  have HW5 := hid (bth (bth HA4 hb4) hb5)
  have HW6 := hid (bth HW5.out hug.below)
  have HB76 := hid (((HB7.out.later hb4).later hb5).later hug.below)
  have HZ6 := hid ((((HZB.out.later (bth hb2 hb3)).alloc (.cells (hc T) 34)).later (bth hb4 hb5)).later hug.below)
  have Hat := hid hug.at_
  have Hfr := hid (fun ad h => Nat.le_trans HW5.out.size (hfr ad h))
  have Hfr2 := hid (fun ad h => (show w.heap.size < ad.block from Nat.lt_of_lt_of_le (Nat.lt_of_lt_of_le HZB.out.lt (by have := (bth hb2 hb3).size; have := hb4.size; have := hb5.size; simp at *; omega)) (hfr ad h)))
  clear H3 HA4 hb2 hb3 hb4 hb5 hug hfr HB7 HZB
  generalize hg7 : w3.heap.size = g7 at *
  clear hg7
  generalize usX L4 = X at *
  clear C1 C2 C3 C4 C5
  cases A with
  | false =>
    have Hf := hid (show getS l = none by rw [hG.out, hdef.out]; simp [SgP.ok])
    go_wp2_with (first
      | ((with_reducible show wpList _ _ _ ({ dst := _, op := Op.build 41 _, type := _, pos := _, after := _, guard := _ } :: _) _ _); refine wpList_build0 rfl 41 rfl (.agg (sgA 0 zero32 0 [] (.slice none 0 0))) (zeroSigned _) ?_)
      | ((with_reducible show wpList _ _ _ ({ dst := _, op := Op.store _ _ _, type := _, pos := _, after := _, guard := _ } :: _) _ _); refine wpList_store_blk rfl 41 _ _ rfl w.heap.size rfl (sgA 0 zero32 0 [] (.slice none 0 0)) rfl Z 41 HZ6.out (by rw [HZ.out]; rfl) Try.sizeSigned (sgA_one rfl) ?_))
    refine bodyPost_ret (results_cell2 rfl _ w.heap.size 41 (sgA 0 zero32 0 [] (.slice none 0 0)) (0, 0) _ rfl (setRow_get (cs := sgA 0 zero32 0 [] (.slice none 0 0)) HZ6.out) Try.underlying41 rfl Try.sizeSigned) rfl ?_
    exact SGA.mk_no Hf.out rfl (Below.setRow HW6.out (Nat.le_refl _) _)
  | true =>
  cases B with
  | false =>
    have Hf := hid (show getS l = none by rw [hG.out, hdef.out]; simp [SgP.ok])
    go_wp2_with (first
      | ((with_reducible show wpList _ _ _ ({ dst := _, op := Op.build 41 _, type := _, pos := _, after := _, guard := _ } :: _) _ _); refine wpList_build0 rfl 41 rfl (.agg (sgA 0 zero32 0 [] (.slice none 0 0))) (zeroSigned _) ?_)
      | ((with_reducible show wpList _ _ _ ({ dst := _, op := Op.store _ _ _, type := _, pos := _, after := _, guard := _ } :: _) _ _); refine wpList_store_blk rfl 41 _ _ rfl w.heap.size rfl (sgA 0 zero32 0 [] (.slice none 0 0)) rfl Z 41 HZ6.out (by rw [HZ.out]; rfl) Try.sizeSigned (sgA_one rfl) ?_))
    refine bodyPost_ret (results_cell2 rfl _ w.heap.size 41 (sgA 0 zero32 0 [] (.slice none 0 0)) (0, 0) _ rfl (setRow_get (cs := sgA 0 zero32 0 [] (.slice none 0 0)) HZ6.out) Try.underlying41 rfl Try.sizeSigned) rfl ?_
    exact SGA.mk_no Hf.out rfl (Below.setRow HW6.out (Nat.le_refl _) _)
  | true =>
  cases C with
  | false =>
    have Hf := hid (show getS l = none by rw [hG.out, hdef.out]; simp [SgP.ok])
    go_wp2_with (first
      | ((with_reducible show wpList _ _ _ ({ dst := _, op := Op.build 41 _, type := _, pos := _, after := _, guard := _ } :: _) _ _); refine wpList_build0 rfl 41 rfl (.agg (sgA 0 zero32 0 [] (.slice none 0 0))) (zeroSigned _) ?_)
      | ((with_reducible show wpList _ _ _ ({ dst := _, op := Op.store _ _ _, type := _, pos := _, after := _, guard := _ } :: _) _ _); refine wpList_store_blk rfl 41 _ _ rfl w.heap.size rfl (sgA 0 zero32 0 [] (.slice none 0 0)) rfl Z 41 HZ6.out (by rw [HZ.out]; rfl) Try.sizeSigned (sgA_one rfl) ?_))
    refine bodyPost_ret (results_cell2 rfl _ w.heap.size 41 (sgA 0 zero32 0 [] (.slice none 0 0)) (0, 0) _ rfl (setRow_get (cs := sgA 0 zero32 0 [] (.slice none 0 0)) HZ6.out) Try.underlying41 rfl Try.sizeSigned) rfl ?_
    exact SGA.mk_no Hf.out rfl (Below.setRow HW6.out (Nat.le_refl _) _)
  | true =>
  cases D with
  | false =>
    have Hf := hid (show getS l = none by rw [hG.out, hdef.out]; simp [SgP.ok])
    go_wp2_with (first
      | ((with_reducible show wpList _ _ _ ({ dst := _, op := Op.build 41 _, type := _, pos := _, after := _, guard := _ } :: _) _ _); refine wpList_build0 rfl 41 rfl (.agg (sgA 0 zero32 0 [] (.slice none 0 0))) (zeroSigned _) ?_)
      | ((with_reducible show wpList _ _ _ ({ dst := _, op := Op.store _ _ _, type := _, pos := _, after := _, guard := _ } :: _) _ _); refine wpList_store_blk rfl 41 _ _ rfl w.heap.size rfl (sgA 0 zero32 0 [] (.slice none 0 0)) rfl Z 41 HZ6.out (by rw [HZ.out]; rfl) Try.sizeSigned (sgA_one rfl) ?_))
    refine bodyPost_ret (results_cell2 rfl _ w.heap.size 41 (sgA 0 zero32 0 [] (.slice none 0 0)) (0, 0) _ rfl (setRow_get (cs := sgA 0 zero32 0 [] (.slice none 0 0)) HZ6.out) Try.underlying41 rfl Try.sizeSigned) rfl ?_
    exact SGA.mk_no Hf.out rfl (Below.setRow HW6.out (Nat.le_refl _) _)
  | true =>
  cases E with
  | false =>
    have Hf := hid (show getS l = none by rw [hG.out, hdef.out]; simp [SgP.ok])
    go_wp2_with (first
      | ((with_reducible show wpList _ _ _ ({ dst := _, op := Op.build 41 _, type := _, pos := _, after := _, guard := _ } :: _) _ _); refine wpList_build0 rfl 41 rfl (.agg (sgA 0 zero32 0 [] (.slice none 0 0))) (zeroSigned _) ?_)
      | ((with_reducible show wpList _ _ _ ({ dst := _, op := Op.store _ _ _, type := _, pos := _, after := _, guard := _ } :: _) _ _); refine wpList_store_blk rfl 41 _ _ rfl w.heap.size rfl (sgA 0 zero32 0 [] (.slice none 0 0)) rfl Z 41 HZ6.out (by rw [HZ.out]; rfl) Try.sizeSigned (sgA_one rfl) ?_))
    refine bodyPost_ret (results_cell2 rfl _ w.heap.size 41 (sgA 0 zero32 0 [] (.slice none 0 0)) (0, 0) _ rfl (setRow_get (cs := sgA 0 zero32 0 [] (.slice none 0 0)) HZ6.out) Try.underlying41 rfl Try.sizeSigned) rfl ?_
    exact SGA.mk_no Hf.out rfl (Below.setRow HW6.out (Nat.le_refl _) _)
  | true =>
  by_cases hN : 4096 < N
  · have dN : decide ((4096 : Int) < (N : Int)) = true := decide_eq_true (by omega)
    have Hf := hid (show getS l = none by
      rw [hG.out, hdef.out]
      have : validB (N : Int) (I : Int) G X.length = false := by rw [Bool.eq_false_iff, ne_eq, validB_iff]; omega
      simp [this])
    clear hN
    go_wp2_with (first
      | ((with_reducible show wpList _ _ _ ({ dst := _, op := Op.build 41 _, type := _, pos := _, after := _, guard := _ } :: _) _ _); refine wpList_build0 rfl 41 rfl (.agg (sgA 0 zero32 0 [] (.slice none 0 0))) (zeroSigned _) ?_)
      | ((with_reducible show wpList _ _ _ ({ dst := _, op := Op.store _ _ _, type := _, pos := _, after := _, guard := _ } :: _) _ _); refine wpList_store_blk rfl 41 _ _ rfl w.heap.size rfl (sgA 0 zero32 0 [] (.slice none 0 0)) rfl Z 41 HZ6.out (by rw [HZ.out]; rfl) Try.sizeSigned (sgA_one rfl) ?_))
    refine bodyPost_ret (results_cell2 rfl _ w.heap.size 41 (sgA 0 zero32 0 [] (.slice none 0 0)) (0, 0) _ rfl (setRow_get (cs := sgA 0 zero32 0 [] (.slice none 0 0)) HZ6.out) Try.underlying41 rfl Try.sizeSigned) rfl ?_
    exact SGA.mk_no Hf.out rfl (Below.setRow HW6.out (Nat.le_refl _) _)
  have dN : decide ((4096 : Int) < (N : Int)) = false := decide_eq_false (by omega)
  have hN' : N ≤ 4096 := by omega
  clear hN
  by_cases hI : 7 < I
  · have dI : decide ((7 : Int) < (I : Int)) = true := decide_eq_true (by omega)
    have Hf := hid (show getS l = none by
      rw [hG.out, hdef.out]
      have : validB (N : Int) (I : Int) G X.length = false := by rw [Bool.eq_false_iff, ne_eq, validB_iff]; omega
      simp [this])
    clear hI
    go_wp2_with (first
      | ((with_reducible show wpList _ _ _ ({ dst := _, op := Op.build 41 _, type := _, pos := _, after := _, guard := _ } :: _) _ _); refine wpList_build0 rfl 41 rfl (.agg (sgA 0 zero32 0 [] (.slice none 0 0))) (zeroSigned _) ?_)
      | ((with_reducible show wpList _ _ _ ({ dst := _, op := Op.store _ _ _, type := _, pos := _, after := _, guard := _ } :: _) _ _); refine wpList_store_blk rfl 41 _ _ rfl w.heap.size rfl (sgA 0 zero32 0 [] (.slice none 0 0)) rfl Z 41 HZ6.out (by rw [HZ.out]; rfl) Try.sizeSigned (sgA_one rfl) ?_))
    refine bodyPost_ret (results_cell2 rfl _ w.heap.size 41 (sgA 0 zero32 0 [] (.slice none 0 0)) (0, 0) _ rfl (setRow_get (cs := sgA 0 zero32 0 [] (.slice none 0 0)) HZ6.out) Try.underlying41 rfl Try.sizeSigned) rfl ?_
    exact SGA.mk_no Hf.out rfl (Below.setRow HW6.out (Nat.le_refl _) _)
  have dI : decide ((7 : Int) < (I : Int)) = false := decide_eq_false (by omega)
  have hI' : I ≤ 7 := by omega
  clear hI
  have HszS := hid (show (Try.prog.info? 41).map (·.size) = some (sgA (N : Int) T (I : Int) G (.slice pa X.length pcap)).size by rw [sgA_size HT.out]; exact Try.sizeSigned)
  obtain ⟨d, hd⟩ : ∃ d : Sg, d = ⟨(N : Int), T, (I : Int), G, X, pa, pcap⟩ := ⟨_, rfl⟩
  have hgl := hgl
  have HPut := hid (fun w0 (h : SlAt w0 32 (.slice pa X.length pcap) (hcs X)) => rsput_any ⟨(N : Int), T, (I : Int), G, X, pa, pcap⟩ w0 ⟨HT.out, h, by simp only; omega, by have := Hpl.out; simp only; omega⟩)
  have hdp : Sg.put ⟨(N : Int), T, (I : Int), G, X, pa, pcap⟩ = if validB (N : Int) (I : Int) G X.length then some (putS N T I G X) else none := rfl
  rw [hdp] at HPut
  have hbk := hid (hback.out (by rw [hdef.out]; rfl))
  clear hd hdp
  go_upto_region 9 with (first
    | ((with_reducible show wpList _ _ _ ({ dst := _, op := Op.load 34 _, type := _, pos := _, after := _, guard := none } :: _) _ _); refine wpList_load_blk rfl 34 _ rfl g7 rfl 34 (hc T) _ HB76.out Try.underlying34 rfl Hszc.out ?_)
    | ((with_reducible show wpList _ _ _ ({ dst := _, op := Op.build 36 _, type := _, pos := _, after := _, guard := _ } :: _) _ _); refine wpList_buildP rfl 36 [(0, .tmp 77), (1, .tmp 78)] rfl (.agg (hdA (N : Int) T)) (fun w => buildHead (N : Int) T HT.out w) ?_)
    | ((with_reducible show wpList _ _ _ ({ dst := _, op := Op.build 41 _, type := _, pos := _, after := _, guard := _ } :: _) _ _); refine wpList_buildP rfl 41 [(0, .tmp 79), (1, .tmp 84)] rfl (.agg (sgA (N : Int) T (I : Int) G (.slice pa X.length pcap))) (fun w => buildSigned (N : Int) (I : Int) T G (.slice pa X.length pcap) HT.out rfl w) ?_)
    | ((with_reducible show wpList _ _ _ ({ dst := _, op := Op.store _ _ _, type := _, pos := _, after := _, guard := _ } :: _) _ _); refine wpList_store_newA rfl 41 _ _ rfl rfl (sgA (N : Int) T (I : Int) G (.slice pa X.length pcap)) rfl _ 41 (by rw [sgA_size HT.out]; rfl) HszS.out (sgA_one rfl) ?_))
  refine wp_world (fun w' => Blk w' w6.heap.size (sgA (N : Int) T (I : Int) G (.slice pa X.length pcap)) 41 ∧ Below w6.heap.size w6 w') ⟨Blk.new _ _ _, (Below.refl _ _).alloc (Nat.le_refl _) _⟩ ?_
  rintro w7 ⟨hB16, hb7⟩
  have HB16 := hid hB16
  have HW7 := hid (bth HW6.out hb7)
  have HZ7 := hid (HZ6.out.later hb7)
  have Hat7 := hid (Hat.out.below hb7 (Nat.le_refl _))
  clear hB16 hb7
  cases hv : validB (N : Int) (I : Int) G X.length with
  | false =>
    rw [hv, if_neg (by simp)] at HPut
    have Hf := hid (show getS l = none by rw [hG.out, hdef.out]; simp [hv])
    clear hv
    go_wp2_with (first
      | ((with_reducible show wpList _ _ _ ({ dst := _, op := Op.load 41 _, type := _, pos := _, after := _, guard := none } :: _) _ _); refine wpList_load_blk rfl 41 _ rfl w6.heap.size rfl 41 (sgA (N : Int) T (I : Int) G (.slice pa X.length pcap)) _ HB16.out Try.underlying41 rfl HszS.out ?_)
      | (go_at_call 49; refine (HPut.out _ Hat7.out).mono ?_; rintro e w8 ⟨rfl, hb8⟩; simp only [putR]; have HZ8 := hid (HZ7.out.later hb8))
      | ((with_reducible show wpList _ _ _ ({ dst := _, op := Op.build 41 _, type := _, pos := _, after := _, guard := _ } :: _) _ _); refine wpList_build0 rfl 41 rfl (.agg (sgA 0 zero32 0 [] (.slice none 0 0))) (zeroSigned _) ?_)
      | ((with_reducible show wpList _ _ _ ({ dst := _, op := Op.store _ _ _, type := _, pos := _, after := _, guard := _ } :: _) _ _); refine wpList_store_blk rfl 41 _ _ rfl w.heap.size rfl (sgA 0 zero32 0 [] (.slice none 0 0)) rfl Z 41 HZ8.out (by rw [HZ.out]; rfl) Try.sizeSigned (sgA_one rfl) ?_))
    refine bodyPost_ret (results_cell2 rfl _ w.heap.size 41 (sgA 0 zero32 0 [] (.slice none 0 0)) (0, 0) _ rfl (setRow_get (cs := sgA 0 zero32 0 [] (.slice none 0 0)) HZ8.out) Try.underlying41 rfl Try.sizeSigned) rfl ?_
    exact SGA.mk_no Hf.out rfl (Below.setRow (bth HW7.out hb8) (Nat.le_refl _) _)
  | true =>
    rw [hv, if_pos rfl] at HPut
    have Hv := hid hv
    clear hv
    by_cases hR : R = []
    · have ht : putS N T I G X = l := by
        have := hbk.out
        rw [hdef.out] at this
        simp only [hR, List.append_nil] at this
        exact this
      rw [ht] at HPut
      have Hf := hid (show getS l = some ((N : Int), T, (I : Int), G, X) by
        rw [hG.out, hdef.out]
        simp only [Hv.out, SgP.ok, SgP.k, hR]
        rfl)
      have hq : (l == l) = true := by simp
      clear ht hR
      go_wp2_with (first
        | ((with_reducible show wpList _ _ _ ({ dst := _, op := Op.load 41 _, type := _, pos := _, after := _, guard := none } :: _) _ _); refine wpList_load_blk rfl 41 _ rfl w6.heap.size rfl 41 (sgA (N : Int) T (I : Int) G (.slice pa X.length pcap)) _ HB16.out Try.underlying41 rfl HszS.out ?_)
        | (go_at_call 49; refine (HPut.out _ Hat7.out).mono ?_; rintro e w8 ⟨rfl, hb8⟩; simp only [putR]; have HZ8 := hid (HZ7.out.later hb8); have HB168 := hid (HB16.out.later hb8))
        | ((with_reducible show wpList _ _ _ ({ dst := _, op := Op.load 41 _, type := _, pos := _, after := _, guard := none } :: _) _ _); refine wpList_load_blk rfl 41 _ rfl w6.heap.size rfl 41 (sgA (N : Int) T (I : Int) G (.slice pa X.length pcap)) _ HB168.out Try.underlying41 rfl HszS.out ?_)
        | ((with_reducible show wpList _ _ _ ({ dst := _, op := Op.store _ _ _, type := _, pos := _, after := _, guard := _ } :: _) _ _); refine wpList_store_blk rfl 41 _ _ rfl w.heap.size rfl (sgA (N : Int) T (I : Int) G (.slice pa X.length pcap)) rfl Z 41 HZ8.out (by rw [HZ.out, sgA_size HT.out]) HszS.out (sgA_one rfl) ?_))
      refine bodyPost_ret (results_cell2 rfl _ w.heap.size 41 (sgA (N : Int) T (I : Int) G (.slice pa X.length pcap)) (0, 0) _ rfl (setRow_get (cs := (sgA (N : Int) T (I : Int) G (.slice pa X.length pcap))) HZ8.out) Try.underlying41 rfl HszS.out) rfl ?_
      have hat8 := (Hat7.out.below hb8 (Nat.le_refl _)).setRow (k := w.heap.size) (cs := (sgA (N : Int) T (I : Int) G (.slice pa X.length pcap))) (fun ad h => by have := Hfr2.out ad h; omega)
      refine ⟨fun h => (by rw [Hf.out] at h; cases h), fun k h => ?_, Below.setRow (bth HW7.out hb8) (Nat.le_refl _) _⟩
      rw [Hf.out] at h
      injection h with h
      subst h
      exact ⟨⟨(N : Int), T, (I : Int), G, X, pa, pcap⟩, rfl, rfl, ⟨HT.out, hat8, by simp only; omega, by have := Hpl.out; simp only; omega⟩, Hfr.out⟩
    · have ht : putS N T I G X ≠ l := fun h => hR (by
        have := hbk.out
        rw [hdef.out] at this
        simp only at this
        rw [h] at this
        simpa using this)
      have hq : (putS N T I G X == l) = false := by simpa using ht
      have Hf := hid (show getS l = none by rw [hG.out, hdef.out]; simp [hR])
      generalize putS N T I G X = t at *
      clear ht hR
      go_wp2_with (first
        | ((with_reducible show wpList _ _ _ ({ dst := _, op := Op.load 41 _, type := _, pos := _, after := _, guard := none } :: _) _ _); refine wpList_load_blk rfl 41 _ rfl w6.heap.size rfl 41 (sgA (N : Int) T (I : Int) G (.slice pa X.length pcap)) _ HB16.out Try.underlying41 rfl HszS.out ?_)
        | (go_at_call 49; refine (HPut.out _ Hat7.out).mono ?_; rintro e w8 ⟨rfl, hb8⟩; simp only [putR]; have HZ8 := hid (HZ7.out.later hb8))
        | ((with_reducible show wpList _ _ _ ({ dst := _, op := Op.build 41 _, type := _, pos := _, after := _, guard := _ } :: _) _ _); refine wpList_build0 rfl 41 rfl (.agg (sgA 0 zero32 0 [] (.slice none 0 0))) (zeroSigned _) ?_)
        | ((with_reducible show wpList _ _ _ ({ dst := _, op := Op.store _ _ _, type := _, pos := _, after := _, guard := _ } :: _) _ _); refine wpList_store_blk rfl 41 _ _ rfl w.heap.size rfl (sgA 0 zero32 0 [] (.slice none 0 0)) rfl Z 41 HZ8.out (by rw [HZ.out]; rfl) Try.sizeSigned (sgA_one rfl) ?_))
      refine bodyPost_ret (results_cell2 rfl _ w.heap.size 41 (sgA 0 zero32 0 [] (.slice none 0 0)) (0, 0) _ rfl (setRow_get (cs := sgA 0 zero32 0 [] (.slice none 0 0)) HZ8.out) Try.underlying41 rfl Try.sizeSigned) rfl ?_
      exact SGA.mk_no Hf.out rfl (Below.setRow (bth HW7.out hb8) (Nat.le_refl _) _)
end Go.Proofs.Ytjpnlnbpaecciaa
