/- heads.Get: a signed head out of bytes -/
import Derived.Test.YtjpnlnbpaecciaaQAnyOp
import Derived.Test.YtjpnlnbpaecciaaQGKnown
import Derived.Test.YtjpnlnbpaecciaaQMissing
import Derived.Deep.DeepCutAuto
set_option maxRecDepth 100000
namespace Go.Spec
open Go.RowKit
variable {P : Program}
/-- a struct, built, whatever the world -/
theorem YieldsW.buildP {C : World → Prop} {ops : Array Oper} {o : Oper} {a : Act} (hw : Region.wanted o (yielded ops a.tmps) = true) (t : TypeId) (parts : List (Nat × Operand)) (ho : o.op = .build t parts.toArray) (v : Value)
    (hr : ∀ w, (Instr.build t (parts.map fun (i, x) => (i, a.eval x)).toArray).run P w = .ok v w) : YieldsW P ops C o v a :=
  .inl ⟨hw, fun w _ => by
    unfold execOp
    simp only [ho, List.map_toArray, hr, Sem.run_bind, Sem.run_pure, Result.andThen_ok]⟩
/-- where a path lies that a call made -/
def Fresh (w : World) (d : Sg) : Prop := ∀ ad, d.a = some ad → w.heap.size ≤ ad.block
end Go.Spec
namespace Go.Proofs.Ytjpnlnbpaecciaa
open Go.RowKit Go.Spec
abbrev SgK := Int × List UInt8 × Int × List UInt8 × List (List UInt8)
/-- a signed head's parts, one behind the other -/
structure SgP where
  n : Nat
  a : Bool
  T : List UInt8
  b : Bool
  i : Nat
  c : Bool
  g : List UInt8
  d : Bool
  p : List (List UInt8)
  e : Bool
  r : List UInt8
def sgP (l : List UInt8) : SgP :=
  let r1 := rdR l; let r2 := unR r1; let r3 := rdR r2; let r4 := cuR r3
  ⟨rdN l, rdB l, unT r1, unB r1, rdN r2, rdB r2, cuT r3, cuB r3, usX r4, usB r4, usR r4⟩
def SgP.ok (x : SgP) : Bool := x.a && x.b && x.c && x.d && x.e
def SgP.k (x : SgP) : SgK := ((x.n : Int), x.T, (x.i : Int), x.g, x.p)
def getS (l : List UInt8) : Option SgK := if (sgP l).ok && (sgP l).r == [] && validB (sgP l).n (sgP l).i (sgP l).g (sgP l).p.length then some (sgP l).k else none
theorem unhashes_own (l : List UInt8) (w : World) (hn : l.length ≤ 9223372036854775807) :
    Calls Try.prog 92 #[sv l] w fun e w' => ∃ a cap, e = .returned (.tuple #[.slice a (usX l).length cap, sv (usR l), .bool (usB l)]) ∧ UG l (.slice a (usX l).length cap) w w' ∧ (∀ ad, a = some ad → w.heap.size ≤ ad.block) :=
  (unhashes_any l w hn).mono fun _ _ h => by
    obtain ⟨v, hv, hat, hown⟩ := uh_gen h
    obtain ⟨a, cap, rfl, _⟩ := hat.formH
    refine ⟨a, cap, hv, ⟨hat, h.below⟩, fun ad had => ?_⟩
    subst had
    rcases hown.2 with ⟨h1, _⟩ | ⟨g, cap', cur, h1, hb, _⟩
    · cases h1
    · injection h1 with h1
      injection h1 with h1
      rw [h1]; exact hb
theorem runhashes_own (l : List UInt8) (w : World) (hn : l.length ≤ 9223372036854775807) :
    Calls Try.prog 94 #[sv l] w fun e w' => ∃ a cap, e = .returned (.tuple #[.slice a (usX l).length cap, sv (usR l), .bool (usB l)]) ∧ UG l (.slice a (usX l).length cap) w w' ∧ (∀ ad, a = some ad → w.heap.size ≤ ad.block) :=
  (runhashes_any l w hn).mono fun _ _ h => by
    obtain ⟨v, hv, hat, hown⟩ := uh_gen h
    obtain ⟨a, cap, rfl, _⟩ := hat.formH
    refine ⟨a, cap, hv, ⟨hat, h.below⟩, fun ad had => ?_⟩
    subst had
    rcases hown.2 with ⟨h1, _⟩ | ⟨g, cap', cur, h1, hb, _⟩
    · cases h1
    · injection h1 with h1
      injection h1 with h1
      rw [h1]; exact hb
/-- what Get answers -/
structure SGA (l : List UInt8) (e : Ending) (w w' : World) : Prop where
  no : getS l = none → e = .returned (.tuple #[.agg (sgA 0 zero32 0 [] (.slice none 0 0)), .int .i64 10])
  yes : ∀ k, getS l = some k → ∃ d : Sg, d.k = k ∧ e = .returned (.tuple #[.agg (sgA d.z d.root d.i d.sig d.p), .int .i64 0]) ∧ d.In w' ∧ Fresh w d
  below : Below w.heap.size w w'
theorem SGA.mk_no {l : List UInt8} {e : Ending} {w w' : World} (h : getS l = none) (he : e = .returned (.tuple #[.agg (sgA 0 zero32 0 [] (.slice none 0 0)), .int .i64 10])) (hb : Below w.heap.size w w') : SGA l e w w' :=
  ⟨fun _ => he, fun k h' => (by rw [h] at h'; cases h'), hb⟩
theorem zeroSigned (w : World) : (Instr.build 41 #[]).run Try.prog w = .ok (.agg (sgA 0 zero32 0 [] (.slice none 0 0))) w := by kernel_rfl
set_option maxHeartbeats 4000000 in
theorem small_any (n : Nat) (w : World) :
    Calls Try.prog 93 #[.int .u64 n] w fun e w' => e = .returned (.int .i64 ((min n 1073741824 : Nat) : Int)) ∧ w' = w := by
  by_cases h : 1073741824 < n
  · have hf := hid (show min n 1073741824 = 1073741824 by omega)
    go_enter Try.func93, Try.ntmps93
    go_wp2
    go_ret
    exact ⟨by rw [hf.out]; simp, rfl⟩
  · have hf := hid (show min n 1073741824 = n by omega)
    have hn : n ≤ 1073741824 := by omega
    go_enter Try.func93, Try.ntmps93
    go_wp2
    go_ret
    exact ⟨by rw [hf.out]; simp, rfl⟩
theorem sgP_32 (l : List UInt8) : (sgP l).T.length = 32 ∧ (∀ x ∈ (sgP l).p, x.length = 32) := ⟨unT_len _, us_32 _⟩
set_option maxHeartbeats 40000000 in
theorem sget_any (l : List UInt8) (w : World) (hl : l.length ≤ 1000000000) :
    Calls Try.prog 72 #[sv l] w fun e w' => SGA l e w w' := by
  have h1 := rdR_le l
  have h2 := unR_le (rdR l)
  have h3 := rdR_le (unR (rdR l))
  have h4 := cuR_le (rdR (unR (rdR l)))
  have h5 := cuT_le (rdR (unR (rdR l)))
  have C1 := hid (fun w0 => read_gen l w0 (by omega))
  have C2 := hid (fun w0 => unhash_gen (rdR l) w0 (by omega))
  have C3 := hid (fun w0 => read_gen (unR (rdR l)) w0 (by omega))
  have C4 := hid (fun w0 => cut_gen (rdR (unR (rdR l))) w0 (by omega))
  have C5 := hid (fun w0 => unhashes_own (cuR (rdR (unR (rdR l)))) w0 (by omega))
  have hG := hid (show getS l = (if (sgP l).ok && (sgP l).r == [] && validB (sgP l).n (sgP l).i (sgP l).g (sgP l).p.length then some (sgP l).k else none) from rfl)
  have hdef := hid (show sgP l = ⟨rdN l, rdB l, unT (rdR l), unB (rdR l), rdN (unR (rdR l)), rdB (unR (rdR l)), cuT (rdR (unR (rdR l))), cuB (rdR (unR (rdR l))), usX (cuR (rdR (unR (rdR l)))), usB (cuR (rdR (unR (rdR l)))), usR (cuR (rdR (unR (rdR l))))⟩ from rfl)
  have hT := unT_len (rdR l)
  have hgl : (cuT (rdR (unR (rdR l)))).length ≤ 1000000000 := by omega
  have hpl := us_le (cuR (rdR (unR (rdR l))))
  generalize rdN l = N at *
  generalize hA : rdB l = A at *
  generalize unT (rdR l) = T at *
  generalize unB (rdR l) = B at *
  generalize rdN (unR (rdR l)) = I at *
  generalize rdB (unR (rdR l)) = C at *
  generalize cuT (rdR (unR (rdR l))) = G at *
  generalize cuB (rdR (unR (rdR l))) = D at *
  generalize usR (cuR (rdR (unR (rdR l)))) = R at *
  generalize usB (cuR (rdR (unR (rdR l)))) = E at *
  clear h1 h2 h3 h4 h5 hA
  generalize cuR (rdR (unR (rdR l))) = L4 at *
  generalize rdR (unR (rdR l)) = L3 at *
  generalize unR (rdR l) = L2 at *
  generalize rdR l = L1 at *
  have Hsz := hid (show (Try.prog.info? 34).map (·.size) = some T.length by rw [hT]; exact Try.sizeHash)
  have Hszc := hid (show (Try.prog.info? 34).map (·.size) = some (hc T).size by rw [hc_size, hT]; exact Try.sizeHash)
  have HT := hid hT; have Hpl := hid hpl
  go_enter Try.func72, Try.ntmps72
  go_upto_region 1 with fail
  refine wp_name ?_
  intro Z w1 hZ hZB hb1 hw1
  have hZ36 : Z.size = 36 := hZ
  have HZB := hid hZB; have HZ := hid hZ36
  clear hZ hZ36 hZB
  have HB1 := hid hb1
  clear hb1 hw1
  go_upto_region 6 with (first
    | (go_at_call 76; (with_reducible refine (C1.out _).mono ?_); rintro e w2 ⟨rfl, hb2⟩)
    | (go_at_call 77; (with_reducible refine (C2.out _).mono ?_); rintro e w3 ⟨rfl, hb3⟩)
    | ((with_reducible show wpList _ _ _ ({ dst := _, op := Op.store _ _ _, type := _, pos := _, after := _, guard := _ } :: _) _ _); refine wpList_store_new rfl 34 _ _ rfl rfl T rfl _ 34 (by rw [HT.out]; rfl) Hsz.out ?_; have HB7 := hid (Blk.new w3 (hc T) 34))
    | (go_at_call 76; (with_reducible refine (C3.out _).mono ?_); rintro e w4 ⟨rfl, hb4⟩)
    | (go_at_call 71; (with_reducible refine (C4.out _).mono ?_); rintro e w5 ⟨rfl, hb5⟩)
    | (go_at_call 92; (with_reducible refine (C5.out _).mono ?_); rintro e w6 ⟨pa, pcap, rfl, hug, hfr⟩))
  have H3 := bth HB1.out (bth hb2 hb3)
  have HA4 := H3.alloc H3.size (.cells (hc T) 34)
  have HW5 := hid (bth (bth HA4 hb4) hb5)
  have HW6 := hid (bth HW5.out hug.below)
  have HB76 := hid (((HB7.out.later hb4).later hb5).later hug.below)
  have HZ6 := hid ((((HZB.out.later (bth hb2 hb3)).alloc (.cells (hc T) 34)).later (bth hb4 hb5)).later hug.below)
  have Hat := hid hug.at_
  have Hfr := hid (fun ad h => Nat.le_trans HW5.out.size (hfr ad h))
  have Hfr2 := hid (fun ad h => (show w.heap.size < ad.block from Nat.lt_of_lt_of_le (Nat.lt_of_lt_of_le HZB.out.lt (by have := (bth hb2 hb3).size; have := hb4.size; have := hb5.size; simp at *; omega)) (hfr ad h)))
  clear H3 HA4 hb2 hb3 hb4 hb5 hug hfr HB7 HZB
  generalize hg7 : w3.heap.size = g7 at *
  clear hg7
  generalize usX L4 = X at *
  obtain ⟨SN, hSN⟩ : ∃ SN, min N 1073741824 = SN := ⟨_, rfl⟩
  obtain ⟨SI, hSI⟩ : ∃ SI, min I 1073741824 = SI := ⟨_, rfl⟩
  have K1 := fun w0 => small_any N w0
  have K2 := fun w0 => small_any I w0
  rw [hSN] at K1; rw [hSI] at K2
  have K1 := hid K1; have K2 := hid K2
  have hsn : SN ≤ 1073741824 := by omega
  have hsi : SI ≤ 1073741824 := by omega
  have HSN := hid hSN; have HSI := hid hSI
  clear hSN hSI
  go_cut [15] (fun p wx => p = .pointer (some ⟨w6.heap.size, 0, none⟩) ∧ Below w6.heap.size w6 wx ∧ Blk wx w6.heap.size (sgA (SN : Int) T (SI : Int) G (.slice pa X.length pcap)) 41)
  case first =>
    refine wp_region_anyC (by kernel_rfl) ?_
    intro w8 he8 hb8
    have hsz8 : w8.heap.size = w6.heap.size := by rw [he8]
    have HbA := hid (fun cs => (hb8.alloc (by omega) (.cells cs 41)))
    have HbF := hid (hb8.alloc (by omega) (.cells (sgA (SN : Int) T (SI : Int) G (.slice pa X.length pcap)) 41))
    have HBF := hid (show Blk (w8.alloc (.cells (sgA (SN : Int) T (SI : Int) G (.slice pa X.length pcap)) 41)) w6.heap.size (sgA (SN : Int) T (SI : Int) G (.slice pa X.length pcap)) 41 by rw [← hsz8]; exact Blk.new _ _ _)
    refine wpAnyC_take (i := 0) (v := .int .u64 (N : Int)) rfl (by kernel_rfl) (by kernel_rfl) (by kernel_rfl) (fun _ _ _ h => h) (Or.inl ⟨by rfl, ?_⟩) ?_
    · intro w _
      go_simp
      try exact IntWalk.i64_in _ (by omega)
      try omega
    (try dsimp only [List.getElem_toArray, List.getElem_cons_succ, List.getElem_cons_zero]); (try go_frame)
    refine wpAnyC_take (i := 2) (v := hv T) rfl (by kernel_rfl) (by kernel_rfl) (by kernel_rfl) (fun _ _ _ h => h) (YieldsW.load_hc (by rfl) 34 _ rfl ⟨g7, 0, none⟩ rfl T _ (fun w' hw' => by have := (HB76.out.later hw').cells; rw [hc_toList] at this; exact this) Try.underlying34 rfl Hsz.out) ?_
    (try dsimp only [List.getElem_toArray, List.getElem_cons_succ, List.getElem_cons_zero]); (try go_frame)
    refine wpAnyC_take (i := 4) (v := .int .u64 (I : Int)) rfl (by kernel_rfl) (by kernel_rfl) (by kernel_rfl) (fun _ _ _ h => h) (Or.inl ⟨by rfl, ?_⟩) ?_
    · intro w _
      go_simp
      try exact IntWalk.i64_in _ (by omega)
      try omega
    (try dsimp only [List.getElem_toArray, List.getElem_cons_succ, List.getElem_cons_zero]); (try go_frame)
    refine wpAnyC_take (i := 6) (v := sv G) rfl (by kernel_rfl) (by kernel_rfl) (by kernel_rfl) (fun _ _ _ h => h) (Or.inl ⟨by rfl, ?_⟩) ?_
    · intro w _
      go_simp
      try exact IntWalk.i64_in _ (by omega)
      try omega
    (try dsimp only [List.getElem_toArray, List.getElem_cons_succ, List.getElem_cons_zero]); (try go_frame)
    refine wpAnyC_take (i := 7) (v := (.slice pa X.length pcap)) rfl (by kernel_rfl) (by kernel_rfl) (by kernel_rfl) (fun _ _ _ h => h) (Or.inl ⟨by rfl, ?_⟩) ?_
    · intro w _
      go_simp
      try exact IntWalk.i64_in _ (by omega)
      try omega
    (try dsimp only [List.getElem_toArray, List.getElem_cons_succ, List.getElem_cons_zero]); (try go_frame)
    refine wpAnyC_all (rs := [1, 10]) (by kernel_rfl) (by simp) hb8 ?_
    intro z hz
    rcases (show z = 1 ∨ z = 10 by simpa using hz) with rfl | rfl
    ·
      refine wpOp_list rfl ?_
      (try dsimp only [List.getElem_toArray, List.getElem_cons_succ, List.getElem_cons_zero]); (try go_frame)
      go_wp2_with (go_at_call 93; refine (K1.out _).mono ?_; rintro e w9 ⟨rfl, rfl⟩)
      show wpAnyC _ _ _ _ _ _ _ _ _
      (try dsimp only [List.getElem_toArray, List.getElem_cons_succ, List.getElem_cons_zero]); (try go_frame)
      refine wpAnyC_take (i := 3) (v := (.agg (hdA (SN : Int) T))) rfl (by kernel_rfl) (by kernel_rfl) (by kernel_rfl) (fun _ _ _ h => h) (YieldsW.buildP (by rfl) 36 [(0, .tmp 47), (1, .tmp 48)] rfl _ (fun w => buildHead (SN : Int) T HT.out w)) ?_
      (try dsimp only [List.getElem_toArray, List.getElem_cons_succ, List.getElem_cons_zero]); (try go_frame)
      refine wpAnyC_all (rs := [5, 10]) (by kernel_rfl) (by simp) hb8 ?_
      intro z hz
      rcases (show z = 5 ∨ z = 10 by simpa using hz) with rfl | rfl
      ·
        refine wpOp_list rfl ?_
        (try dsimp only [List.getElem_toArray, List.getElem_cons_succ, List.getElem_cons_zero]); (try go_frame)
        go_wp2_with (go_at_call 93; refine (K2.out _).mono ?_; rintro e w9 ⟨rfl, rfl⟩)
        show wpAnyC _ _ _ _ _ _ _ _ _
        (try dsimp only [List.getElem_toArray, List.getElem_cons_succ, List.getElem_cons_zero]); (try go_frame)
        refine wpAnyC_take (i := 8) (v := (.agg #[.int .i64 (SI : Int), sv G, (.slice pa X.length pcap)])) rfl (by kernel_rfl) (by kernel_rfl) (by kernel_rfl) (fun _ _ _ h => h) (Or.inl ⟨by rfl, ?_⟩) ?_
        · intro w _
          go_simp
          try exact IntWalk.i64_in _ (by omega)
          try omega
        (try dsimp only [List.getElem_toArray, List.getElem_cons_succ, List.getElem_cons_zero]); (try go_frame)
        refine wpAnyC_take (i := 9) (v := (.agg (sgA (SN : Int) T (SI : Int) G (.slice pa X.length pcap)))) rfl (by kernel_rfl) (by kernel_rfl) (by kernel_rfl) (fun _ _ _ h => h) (YieldsW.buildP (by rfl) 41 [(0, .tmp 49), (1, .tmp 54)] rfl _ (fun w => buildSigned (SN : Int) (SI : Int) T G (.slice pa X.length pcap) HT.out rfl w)) ?_
        (try dsimp only [List.getElem_toArray, List.getElem_cons_succ, List.getElem_cons_zero]); (try go_frame)
        refine wpAnyC_forced (i := 10) (by kernel_rfl) rfl ((by first | assumption | exact HbA.out _)) ?_
        (try dsimp only [List.getElem_toArray, List.getElem_cons_succ, List.getElem_cons_zero]); (try go_frame)
        go_wp2_with fail
        show wpAnyC _ _ _ _ _ _ _ _ _
        (try dsimp only [List.getElem_toArray, List.getElem_cons_succ, List.getElem_cons_zero]); (try go_frame)
        refine wpAnyC_forced (i := 11) (by kernel_rfl) rfl ((by first | assumption | exact HbA.out _)) ?_
        (try dsimp only [List.getElem_toArray, List.getElem_cons_succ, List.getElem_cons_zero]); (try go_frame)
        refine wpList_store_newA rfl 41 _ _ rfl (by rw [hsz8]; first | done | rfl) (sgA (SN : Int) T (SI : Int) G (.slice pa X.length pcap)) rfl _ 41 (by rw [sgA_size HT.out]; rfl) (by rw [sgA_size HT.out]; exact Try.sizeSigned) (sgA_one rfl) ?_
        refine wpList_nil ?_
        show wpAnyC _ _ _ _ _ _ _ _ _
        (try dsimp only [List.getElem_toArray, List.getElem_cons_succ, List.getElem_cons_zero]); (try go_frame)
        refine wpAnyC_done (by kernel_rfl) HbF.out ?_ _
        go_wp2_with fail
        go_meet
        exact ⟨rfl, HbF.out, HBF.out⟩
      ·
        refine wpOp_list rfl ?_
        (try dsimp only [List.getElem_toArray, List.getElem_cons_succ, List.getElem_cons_zero]); (try go_frame)
        go_wp2_with fail
        show wpAnyC _ _ _ _ _ _ _ _ _
        (try dsimp only [List.getElem_toArray, List.getElem_cons_succ, List.getElem_cons_zero]); (try go_frame)
        refine wpAnyC_forced (i := 5) (by kernel_rfl) rfl ((by first | assumption | exact HbA.out _)) ?_
        (try dsimp only [List.getElem_toArray, List.getElem_cons_succ, List.getElem_cons_zero]); (try go_frame)
        go_wp2_with (go_at_call 93; refine (K2.out _).mono ?_; rintro e w9 ⟨rfl, rfl⟩)
        show wpAnyC _ _ _ _ _ _ _ _ _
        (try dsimp only [List.getElem_toArray, List.getElem_cons_succ, List.getElem_cons_zero]); (try go_frame)
        refine wpAnyC_take (i := 8) (v := (.agg #[.int .i64 (SI : Int), sv G, (.slice pa X.length pcap)])) rfl (by kernel_rfl) (by kernel_rfl) (by kernel_rfl) (fun _ _ _ h => h) (Or.inl ⟨by rfl, ?_⟩) ?_
        · intro w _
          go_simp
          try exact IntWalk.i64_in _ (by omega)
          try omega
        (try dsimp only [List.getElem_toArray, List.getElem_cons_succ, List.getElem_cons_zero]); (try go_frame)
        refine wpAnyC_take (i := 9) (v := (.agg (sgA (SN : Int) T (SI : Int) G (.slice pa X.length pcap)))) rfl (by kernel_rfl) (by kernel_rfl) (by kernel_rfl) (fun _ _ _ h => h) (YieldsW.buildP (by rfl) 41 [(0, .tmp 49), (1, .tmp 54)] rfl _ (fun w => buildSigned (SN : Int) (SI : Int) T G (.slice pa X.length pcap) HT.out rfl w)) ?_
        (try dsimp only [List.getElem_toArray, List.getElem_cons_succ, List.getElem_cons_zero]); (try go_frame)
        refine wpAnyC_forced (i := 11) (by kernel_rfl) rfl ((by first | assumption | exact HbA.out _)) ?_
        (try dsimp only [List.getElem_toArray, List.getElem_cons_succ, List.getElem_cons_zero]); (try go_frame)
        refine wpList_store_newA rfl 41 _ _ rfl (by rw [hsz8]; first | done | rfl) (sgA (SN : Int) T (SI : Int) G (.slice pa X.length pcap)) rfl _ 41 (by rw [sgA_size HT.out]; rfl) (by rw [sgA_size HT.out]; exact Try.sizeSigned) (sgA_one rfl) ?_
        refine wpList_nil ?_
        show wpAnyC _ _ _ _ _ _ _ _ _
        (try dsimp only [List.getElem_toArray, List.getElem_cons_succ, List.getElem_cons_zero]); (try go_frame)
        refine wpAnyC_done (by kernel_rfl) HbF.out ?_ _
        go_wp2_with fail
        go_meet
        exact ⟨rfl, HbF.out, HBF.out⟩
    ·
      refine wpOp_list rfl ?_
      (try dsimp only [List.getElem_toArray, List.getElem_cons_succ, List.getElem_cons_zero]); (try go_frame)
      go_wp2_with fail
      show wpAnyC _ _ _ _ _ _ _ _ _
      (try dsimp only [List.getElem_toArray, List.getElem_cons_succ, List.getElem_cons_zero]); (try go_frame)
      refine wpAnyC_forced (i := 1) (by kernel_rfl) rfl ((by first | assumption | exact HbA.out _)) ?_
      (try dsimp only [List.getElem_toArray, List.getElem_cons_succ, List.getElem_cons_zero]); (try go_frame)
      go_wp2_with (go_at_call 93; refine (K1.out _).mono ?_; rintro e w9 ⟨rfl, rfl⟩)
      show wpAnyC _ _ _ _ _ _ _ _ _
      (try dsimp only [List.getElem_toArray, List.getElem_cons_succ, List.getElem_cons_zero]); (try go_frame)
      refine wpAnyC_take (i := 3) (v := (.agg (hdA (SN : Int) T))) rfl (by kernel_rfl) (by kernel_rfl) (by kernel_rfl) (fun _ _ _ h => h) (YieldsW.buildP (by rfl) 36 [(0, .tmp 47), (1, .tmp 48)] rfl _ (fun w => buildHead (SN : Int) T HT.out w)) ?_
      (try dsimp only [List.getElem_toArray, List.getElem_cons_succ, List.getElem_cons_zero]); (try go_frame)
      refine wpAnyC_forced (i := 5) (by kernel_rfl) rfl ((by first | assumption | exact HbA.out _)) ?_
      (try dsimp only [List.getElem_toArray, List.getElem_cons_succ, List.getElem_cons_zero]); (try go_frame)
      go_wp2_with (go_at_call 93; refine (K2.out _).mono ?_; rintro e w9 ⟨rfl, rfl⟩)
      show wpAnyC _ _ _ _ _ _ _ _ _
      (try dsimp only [List.getElem_toArray, List.getElem_cons_succ, List.getElem_cons_zero]); (try go_frame)
      refine wpAnyC_take (i := 8) (v := (.agg #[.int .i64 (SI : Int), sv G, (.slice pa X.length pcap)])) rfl (by kernel_rfl) (by kernel_rfl) (by kernel_rfl) (fun _ _ _ h => h) (Or.inl ⟨by rfl, ?_⟩) ?_
      · intro w _
        go_simp
        try exact IntWalk.i64_in _ (by omega)
        try omega
      (try dsimp only [List.getElem_toArray, List.getElem_cons_succ, List.getElem_cons_zero]); (try go_frame)
      refine wpAnyC_take (i := 9) (v := (.agg (sgA (SN : Int) T (SI : Int) G (.slice pa X.length pcap)))) rfl (by kernel_rfl) (by kernel_rfl) (by kernel_rfl) (fun _ _ _ h => h) (YieldsW.buildP (by rfl) 41 [(0, .tmp 49), (1, .tmp 54)] rfl _ (fun w => buildSigned (SN : Int) (SI : Int) T G (.slice pa X.length pcap) HT.out rfl w)) ?_
      (try dsimp only [List.getElem_toArray, List.getElem_cons_succ, List.getElem_cons_zero]); (try go_frame)
      refine wpAnyC_forced (i := 11) (by kernel_rfl) rfl ((by first | assumption | exact HbA.out _)) ?_
      (try dsimp only [List.getElem_toArray, List.getElem_cons_succ, List.getElem_cons_zero]); (try go_frame)
      refine wpList_store_newA rfl 41 _ _ rfl (by rw [hsz8]; first | done | rfl) (sgA (SN : Int) T (SI : Int) G (.slice pa X.length pcap)) rfl _ 41 (by rw [sgA_size HT.out]; rfl) (by rw [sgA_size HT.out]; exact Try.sizeSigned) (sgA_one rfl) ?_
      refine wpList_nil ?_
      show wpAnyC _ _ _ _ _ _ _ _ _
      (try dsimp only [List.getElem_toArray, List.getElem_cons_succ, List.getElem_cons_zero]); (try go_frame)
      refine wpAnyC_done (by kernel_rfl) HbF.out ?_ _
      go_wp2_with fail
      go_meet
      exact ⟨rfl, HbF.out, HBF.out⟩
  case rest =>
    obtain ⟨rfl, hb7, hB15⟩ := hcut
    have HW7 := hid (bth HW6.out hb7)
    have HZ7 := hid (HZ6.out.later hb7)
    have HB15 := hid hB15
    have Hat7 := hid (Hat.out.below hb7 (Nat.le_refl _))
    clear hb7 hB15 HW5 HB76 HZ6 HB1 Hat C1 C2 C3 C4 C5 K1 K2
    have HszS := hid (show (Try.prog.info? 41).map (·.size) = some (sgA (SN : Int) T (SI : Int) G (.slice pa X.length pcap)).size by rw [sgA_size HT.out]; exact Try.sizeSigned)
    have V := hid (fun w0 => valid_any (SN : Int) (SI : Int) T G pa X.length pcap w0 HT.out)
    have HVN := hid (show validB (SN : Int) (SI : Int) G X.length = validB (N : Int) (I : Int) G X.length by
      have h1 := HSN.out; have h2 := HSI.out
      rw [Bool.eq_iff_iff, validB_iff, validB_iff]
      omega)
    cases A with
    | false =>
      have Hf := hid (show getS l = none by rw [hG.out, hdef.out]; simp [SgP.ok])
      go_wp2_with (first
        | ((with_reducible show wpList _ _ _ ({ dst := _, op := Op.build _ _, type := _, pos := _, after := _, guard := _ } :: _) _ _); refine wpList_build0 rfl 41 rfl (.agg (sgA 0 zero32 0 [] (.slice none 0 0))) (zeroSigned _) ?_)
        | ((with_reducible show wpList _ _ _ ({ dst := _, op := Op.store _ _ _, type := _, pos := _, after := _, guard := _ } :: _) _ _); refine wpList_store_blk rfl 41 _ _ rfl w.heap.size rfl (sgA 0 zero32 0 [] (.slice none 0 0)) rfl Z 41 HZ7.out (by rw [HZ.out]; rfl) Try.sizeSigned (sgA_one rfl) ?_))
      refine bodyPost_ret (results_cell2 rfl _ w.heap.size 41 (sgA 0 zero32 0 [] (.slice none 0 0)) (0, 0) _ rfl (setRow_get (cs := sgA 0 zero32 0 [] (.slice none 0 0)) HZ7.out) Try.underlying41 rfl Try.sizeSigned) rfl ?_
      exact SGA.mk_no Hf.out rfl (Below.setRow HW7.out (Nat.le_refl _) _)
    | true =>
    cases B with
    | false =>
      have Hf := hid (show getS l = none by rw [hG.out, hdef.out]; simp [SgP.ok])
      go_wp2_with (first
        | ((with_reducible show wpList _ _ _ ({ dst := _, op := Op.build _ _, type := _, pos := _, after := _, guard := _ } :: _) _ _); refine wpList_build0 rfl 41 rfl (.agg (sgA 0 zero32 0 [] (.slice none 0 0))) (zeroSigned _) ?_)
        | ((with_reducible show wpList _ _ _ ({ dst := _, op := Op.store _ _ _, type := _, pos := _, after := _, guard := _ } :: _) _ _); refine wpList_store_blk rfl 41 _ _ rfl w.heap.size rfl (sgA 0 zero32 0 [] (.slice none 0 0)) rfl Z 41 HZ7.out (by rw [HZ.out]; rfl) Try.sizeSigned (sgA_one rfl) ?_))
      refine bodyPost_ret (results_cell2 rfl _ w.heap.size 41 (sgA 0 zero32 0 [] (.slice none 0 0)) (0, 0) _ rfl (setRow_get (cs := sgA 0 zero32 0 [] (.slice none 0 0)) HZ7.out) Try.underlying41 rfl Try.sizeSigned) rfl ?_
      exact SGA.mk_no Hf.out rfl (Below.setRow HW7.out (Nat.le_refl _) _)
    | true =>
    cases C with
    | false =>
      have Hf := hid (show getS l = none by rw [hG.out, hdef.out]; simp [SgP.ok])
      go_wp2_with (first
        | ((with_reducible show wpList _ _ _ ({ dst := _, op := Op.build _ _, type := _, pos := _, after := _, guard := _ } :: _) _ _); refine wpList_build0 rfl 41 rfl (.agg (sgA 0 zero32 0 [] (.slice none 0 0))) (zeroSigned _) ?_)
        | ((with_reducible show wpList _ _ _ ({ dst := _, op := Op.store _ _ _, type := _, pos := _, after := _, guard := _ } :: _) _ _); refine wpList_store_blk rfl 41 _ _ rfl w.heap.size rfl (sgA 0 zero32 0 [] (.slice none 0 0)) rfl Z 41 HZ7.out (by rw [HZ.out]; rfl) Try.sizeSigned (sgA_one rfl) ?_))
      refine bodyPost_ret (results_cell2 rfl _ w.heap.size 41 (sgA 0 zero32 0 [] (.slice none 0 0)) (0, 0) _ rfl (setRow_get (cs := sgA 0 zero32 0 [] (.slice none 0 0)) HZ7.out) Try.underlying41 rfl Try.sizeSigned) rfl ?_
      exact SGA.mk_no Hf.out rfl (Below.setRow HW7.out (Nat.le_refl _) _)
    | true =>
    cases D with
    | false =>
      have Hf := hid (show getS l = none by rw [hG.out, hdef.out]; simp [SgP.ok])
      go_wp2_with (first
        | ((with_reducible show wpList _ _ _ ({ dst := _, op := Op.build _ _, type := _, pos := _, after := _, guard := _ } :: _) _ _); refine wpList_build0 rfl 41 rfl (.agg (sgA 0 zero32 0 [] (.slice none 0 0))) (zeroSigned _) ?_)
        | ((with_reducible show wpList _ _ _ ({ dst := _, op := Op.store _ _ _, type := _, pos := _, after := _, guard := _ } :: _) _ _); refine wpList_store_blk rfl 41 _ _ rfl w.heap.size rfl (sgA 0 zero32 0 [] (.slice none 0 0)) rfl Z 41 HZ7.out (by rw [HZ.out]; rfl) Try.sizeSigned (sgA_one rfl) ?_))
      refine bodyPost_ret (results_cell2 rfl _ w.heap.size 41 (sgA 0 zero32 0 [] (.slice none 0 0)) (0, 0) _ rfl (setRow_get (cs := sgA 0 zero32 0 [] (.slice none 0 0)) HZ7.out) Try.underlying41 rfl Try.sizeSigned) rfl ?_
      exact SGA.mk_no Hf.out rfl (Below.setRow HW7.out (Nat.le_refl _) _)
    | true =>
    cases E with
    | false =>
      have Hf := hid (show getS l = none by rw [hG.out, hdef.out]; simp [SgP.ok])
      go_wp2_with (first
        | ((with_reducible show wpList _ _ _ ({ dst := _, op := Op.build _ _, type := _, pos := _, after := _, guard := _ } :: _) _ _); refine wpList_build0 rfl 41 rfl (.agg (sgA 0 zero32 0 [] (.slice none 0 0))) (zeroSigned _) ?_)
        | ((with_reducible show wpList _ _ _ ({ dst := _, op := Op.store _ _ _, type := _, pos := _, after := _, guard := _ } :: _) _ _); refine wpList_store_blk rfl 41 _ _ rfl w.heap.size rfl (sgA 0 zero32 0 [] (.slice none 0 0)) rfl Z 41 HZ7.out (by rw [HZ.out]; rfl) Try.sizeSigned (sgA_one rfl) ?_))
      refine bodyPost_ret (results_cell2 rfl _ w.heap.size 41 (sgA 0 zero32 0 [] (.slice none 0 0)) (0, 0) _ rfl (setRow_get (cs := sgA 0 zero32 0 [] (.slice none 0 0)) HZ7.out) Try.underlying41 rfl Try.sizeSigned) rfl ?_
      exact SGA.mk_no Hf.out rfl (Below.setRow HW7.out (Nat.le_refl _) _)
    | true =>
    by_cases hR : R = []
    rotate_left
    · have hq : (R == []) = false := by simpa using hR
      have Hf := hid (show getS l = none by rw [hG.out, hdef.out]; simp [SgP.ok, hR])
      clear hR
      go_wp2_with (first
        | ((with_reducible show wpList _ _ _ ({ dst := _, op := Op.build _ _, type := _, pos := _, after := _, guard := _ } :: _) _ _); refine wpList_build0 rfl 41 rfl (.agg (sgA 0 zero32 0 [] (.slice none 0 0))) (zeroSigned _) ?_)
        | ((with_reducible show wpList _ _ _ ({ dst := _, op := Op.store _ _ _, type := _, pos := _, after := _, guard := _ } :: _) _ _); refine wpList_store_blk rfl 41 _ _ rfl w.heap.size rfl (sgA 0 zero32 0 [] (.slice none 0 0)) rfl Z 41 HZ7.out (by rw [HZ.out]; rfl) Try.sizeSigned (sgA_one rfl) ?_))
      refine bodyPost_ret (results_cell2 rfl _ w.heap.size 41 (sgA 0 zero32 0 [] (.slice none 0 0)) (0, 0) _ rfl (setRow_get (cs := sgA 0 zero32 0 [] (.slice none 0 0)) HZ7.out) Try.underlying41 rfl Try.sizeSigned) rfl ?_
      exact SGA.mk_no Hf.out rfl (Below.setRow HW7.out (Nat.le_refl _) _)
    subst hR
    cases hv : validB (SN : Int) (SI : Int) G X.length with
    | false =>
      rw [hv] at V
      have Hf := hid (show getS l = none by rw [hG.out, hdef.out]; simp only [← HVN.out, hv]; simp)
      clear hv
      go_wp2_with (first
        | ((with_reducible show wpList _ _ _ ({ dst := _, op := Op.load 41 _, type := _, pos := _, after := _, guard := some (22, false) } :: _) _ _); refine wpList_load_csG (by kernel_rfl) 41 _ rfl ⟨w6.heap.size, 0, none⟩ rfl (sgA (SN : Int) T (SI : Int) G (.slice pa X.length pcap)) _ HB15.out.cells Try.underlying41 rfl HszS.out ?_)
        | (go_at_call 21; refine (V.out _).mono ?_; rintro e w8 ⟨rfl, hb8⟩; have HZ8 := hid (HZ7.out.later hb8); have HB158 := hid (HB15.out.later hb8))
        | ((with_reducible show wpList _ _ _ ({ dst := _, op := Op.build _ _, type := _, pos := _, after := _, guard := _ } :: _) _ _); refine wpList_build0 rfl 41 rfl (.agg (sgA 0 zero32 0 [] (.slice none 0 0))) (zeroSigned _) ?_)
        | ((with_reducible show wpList _ _ _ ({ dst := _, op := Op.store _ _ _, type := _, pos := _, after := _, guard := _ } :: _) _ _); refine wpList_store_blk rfl 41 _ _ rfl w.heap.size rfl (sgA 0 zero32 0 [] (.slice none 0 0)) rfl Z 41 HZ8.out (by rw [HZ.out]; rfl) Try.sizeSigned (sgA_one rfl) ?_))
      refine bodyPost_ret (results_cell2 rfl _ w.heap.size 41 (sgA 0 zero32 0 [] (.slice none 0 0)) (0, 0) _ rfl (setRow_get (cs := sgA 0 zero32 0 [] (.slice none 0 0)) HZ8.out) Try.underlying41 rfl Try.sizeSigned) rfl ?_
      exact SGA.mk_no Hf.out rfl (Below.setRow (bth HW7.out hb8) (Nat.le_refl _) _)
    | true =>
      rw [hv] at V
      have hv1 := hv
      rw [HVN.out] at hv1
      have hv2 : (SN : Int) ≤ 4096 := (validB_iff.1 hv).1.2
      have hv3 : (SI : Int) < 8 := (validB_iff.1 hv).2.2.1
      have Hf := hid (show getS l = some ((SN : Int), T, (SI : Int), G, X) by
        have h1 := HSN.out; have h2 := HSI.out
        rw [hG.out, hdef.out]
        simp only [hv1, SgP.ok, SgP.k]
        rw [show N = SN by omega, show I = SI by omega]
        rfl)
      clear hv hv1 hv2 hv3
      go_wp2_with (first
        | ((with_reducible show wpList _ _ _ ({ dst := _, op := Op.load 41 _, type := _, pos := _, after := _, guard := some (22, false) } :: _) _ _); refine wpList_load_csG (by kernel_rfl) 41 _ rfl ⟨w6.heap.size, 0, none⟩ rfl (sgA (SN : Int) T (SI : Int) G (.slice pa X.length pcap)) _ HB15.out.cells Try.underlying41 rfl HszS.out ?_)
        | (go_at_call 21; refine (V.out _).mono ?_; rintro e w8 ⟨rfl, hb8⟩; have HZ8 := hid (HZ7.out.later hb8); have HB158 := hid (HB15.out.later hb8))
        | ((with_reducible show wpList _ _ _ ({ dst := _, op := Op.load 41 _, type := _, pos := _, after := _, guard := none } :: _) _ _); refine wpList_load_blk rfl 41 _ rfl w6.heap.size rfl 41 (sgA (SN : Int) T (SI : Int) G (.slice pa X.length pcap)) _ HB158.out Try.underlying41 rfl HszS.out ?_)
        | ((with_reducible show wpList _ _ _ ({ dst := _, op := Op.store _ _ _, type := _, pos := _, after := _, guard := _ } :: _) _ _); refine wpList_store_blk rfl 41 _ _ rfl w.heap.size rfl (sgA (SN : Int) T (SI : Int) G (.slice pa X.length pcap)) rfl Z 41 HZ8.out (by rw [HZ.out, sgA_size HT.out]) HszS.out (sgA_one rfl) ?_))
      refine bodyPost_ret (results_cell2 rfl _ w.heap.size 41 (sgA (SN : Int) T (SI : Int) G (.slice pa X.length pcap)) (0, 0) _ rfl (setRow_get (cs := sgA (SN : Int) T (SI : Int) G (.slice pa X.length pcap)) HZ8.out) Try.underlying41 rfl HszS.out) rfl ?_
      have hat8 := (Hat7.out.below hb8 (Nat.le_refl _)).setRow (k := w.heap.size) (cs := sgA (SN : Int) T (SI : Int) G (.slice pa X.length pcap)) (fun ad h => by have := Hfr2.out ad h; omega)
      refine ⟨fun h => (by rw [Hf.out] at h; cases h), fun k h => ?_, Below.setRow (bth HW7.out hb8) (Nat.le_refl _) _⟩
      rw [Hf.out] at h
      injection h with h
      subst h
      exact ⟨⟨(SN : Int), T, (SI : Int), G, X, pa, pcap⟩, rfl, rfl, ⟨HT.out, hat8, by simp only; omega, by have := Hpl.out; simp only; omega⟩, Hfr.out⟩
end Go.Proofs.Ytjpnlnbpaecciaa
/- Signed heads out of bytes: plain laws -/
namespace Go.Proofs.Ytjpnlnbpaecciaa
open Go.RowKit Go.Spec
theorem sgP_put (z i : Nat) (root sig r : List UInt8) (path : List (List UInt8)) (hz : z ≤ 4096) (hi : i < 8) (hr : root.length = 32) (hs : sig.length ≤ 1000000) (h32 : ∀ x ∈ path, x.length = 32) (hp : path.length ≤ 64) :
    sgP (putS z root i sig path ++ r) = ⟨z, true, root, true, i, true, sig, true, path, true, r⟩ := by
  have h1 : rd 0 (putS z root i sig path ++ r) = some (z, root ++ (numL i ++ (numL sig.length ++ (sig ++ (hashesL path ++ r))))) := by
    rw [show putS z root i sig path ++ r = numL z ++ (root ++ (numL i ++ (numL sig.length ++ (sig ++ (hashesL path ++ r))))) by simp [putS]]
    exact rd_num _ (by omega) _
  have e1 : rdR (putS z root i sig path ++ r) = root ++ (numL i ++ (numL sig.length ++ (sig ++ (hashesL path ++ r)))) := by rw [rdR, h1]
  have e2 : unT (root ++ (numL i ++ (numL sig.length ++ (sig ++ (hashesL path ++ r))))) = root := by
    rw [unT, if_neg (by simp; omega), ← hr, List.take_left]
  have e3 : unR (root ++ (numL i ++ (numL sig.length ++ (sig ++ (hashesL path ++ r))))) = numL i ++ (numL sig.length ++ (sig ++ (hashesL path ++ r))) := by
    rw [unR, if_neg (by simp; omega), ← hr, List.drop_left]
  have h2 : rd 0 (numL i ++ (numL sig.length ++ (sig ++ (hashesL path ++ r)))) = some (i, numL sig.length ++ (sig ++ (hashesL path ++ r))) := rd_num _ (by omega) _
  have h3 : cutL (numL sig.length ++ (sig ++ (hashesL path ++ r))) = some (sig, hashesL path ++ r) := by
    have := cutL_text sig (hashesL path ++ r) (by omega)
    rwa [List.append_assoc] at this
  have h4 := unhashesL_hashes path r h32 hp
  have e4 : rdR (numL i ++ (numL sig.length ++ (sig ++ (hashesL path ++ r)))) = numL sig.length ++ (sig ++ (hashesL path ++ r)) := by rw [rdR, h2]
  have e5 : cuR (numL sig.length ++ (sig ++ (hashesL path ++ r))) = hashesL path ++ r := by rw [cuR, h3]
  unfold sgP
  simp only [e1, e3, e4, e5, e2]
  have f1 : rdN (putS z root i sig path ++ r) = z := by rw [rdN, h1]
  have f2 : rdB (putS z root i sig path ++ r) = true := by rw [rdB, h1]; rfl
  have f3 : unB (root ++ (numL i ++ (numL sig.length ++ (sig ++ (hashesL path ++ r))))) = true := by simp [unB]; omega
  have f4 : rdN (numL i ++ (numL sig.length ++ (sig ++ (hashesL path ++ r)))) = i := by rw [rdN, h2]
  have f5 : rdB (numL i ++ (numL sig.length ++ (sig ++ (hashesL path ++ r)))) = true := by rw [rdB, h2]; rfl
  have f6 : cuT (numL sig.length ++ (sig ++ (hashesL path ++ r))) = sig := by rw [cuT, h3]
  have f7 : cuB (numL sig.length ++ (sig ++ (hashesL path ++ r))) = true := by rw [cuB, h3]; rfl
  have f8 : usX (hashesL path ++ r) = path := by rw [usX, h4]
  have f9 : usB (hashesL path ++ r) = true := by rw [usB, h4]; rfl
  have f10 : usR (hashesL path ++ r) = r := by rw [usR, h4]
  rw [f1, f2, f3, f4, f5, f6, f7, f8, f9, f10]
theorem sgP_back (l : List UInt8) (h : (sgP l).ok = true) : putS (sgP l).n (sgP l).T (sgP l).i (sgP l).g (sgP l).p ++ (sgP l).r = l := by
  simp only [SgP.ok, Bool.and_eq_true] at h
  obtain ⟨⟨⟨⟨a, b⟩, c⟩, d⟩, e⟩ := h
  have f1 := (form_rd l).1 a
  have f2 := (form_un (rdR l)).1 b
  have f3 := (form_rd (unR (rdR l))).1 c
  have f4 := (form_cut (rdR (unR (rdR l)))).1 d
  have f5 := (form_us (cuR (rdR (unR (rdR l))))).1 e
  simp only [beq_iff_eq] at f1 f2 f3 f4 f5
  show putS (rdN l) (unT (rdR l)) (rdN (unR (rdR l))) (cuT (rdR (unR (rdR l)))) (usX (cuR (rdR (unR (rdR l))))) ++ usR (cuR (rdR (unR (rdR l)))) = l
  unfold putS
  simp only [List.append_assoc]
  rw [f5, f4.1, f3.1, f2, f1.1]
theorem getS_back (l : List UInt8) (k : SgK) (h : getS l = some k) : ∃ z i : Nat, k = ((z : Int), k.2.1, (i : Int), k.2.2.2.1, k.2.2.2.2) ∧ validB (z : Int) (i : Int) k.2.2.2.1 k.2.2.2.2.length = true ∧ putS z k.2.1 i k.2.2.2.1 k.2.2.2.2 = l ∧ k.2.1.length = 32 ∧ ∀ x ∈ k.2.2.2.2, x.length = 32 := by
  unfold getS at h
  split at h
  · rename_i hc
    simp only [Bool.and_eq_true, beq_iff_eq] at hc
    injection h with h
    subst h
    refine ⟨(sgP l).n, (sgP l).i, rfl, hc.2, ?_, (sgP_32 l).1, (sgP_32 l).2⟩
    have := sgP_back l hc.1.1
    rw [hc.1.2, List.append_nil] at this
    exact this
  · cases h
theorem getS_put (d : Sg) (t : List UInt8) (hr : d.root.length = 32) (h32 : ∀ x ∈ d.path, x.length = 32) (h : d.put = some t) : getS t = some d.k := by
  obtain ⟨z, root, i, sig, path, a, cap⟩ := d
  unfold Sg.put at h
  split at h
  · rename_i hv
    injection h with h
    simp only at hr h32
    have hv' : validB z i sig path.length = true := hv
    obtain ⟨⟨h1, h2⟩, h3, h4, h5, h6⟩ := validB_iff.1 hv'
    obtain ⟨zn, rfl⟩ : ∃ n : Nat, z = n := ⟨z.toNat, by omega⟩
    obtain ⟨jn, rfl⟩ : ∃ n : Nat, i = n := ⟨i.toNat, by omega⟩
    have hp := sgP_put zn jn root sig [] path (by omega) (by omega) hr (by omega) h32 (by omega)
    rw [List.append_nil] at hp
    have ht : putS zn root jn sig path = t := by rw [← h]; rfl
    rw [ht] at hp
    unfold getS
    rw [hp]
    simp [SgP.ok, SgP.k, hv', Sg.k]
  · cases h
end Go.Proofs.Ytjpnlnbpaecciaa
