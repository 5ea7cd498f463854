/- tiles.Path -/
import Derived.Test.YtbpjlancjdbehaaDoorQTileFn

set_option maxRecDepth 100000
namespace Go.Spec
open Go.RowKit
variable {P : Program} {w : World}
/-- append([]Hash{h}, out...): a row with one hash more in front -/
theorem wpList_prepend {ops : Array Oper} {rest : List Oper} {o : Oper} {a : Act} {Q : Exit → Act → World → Prop} (hgd : o.guard = none) (s x : Operand) (t : TypeId)
    (ho : o.op = .call { callee := .builtin .append, args := #[s, x], argTypes := #[t, t] })
    (base : Nat) (e : TypeId) (i : TypeInfo) (z : Value) (ht : P.underlying t = some (.slice e)) (hi : P.info? e = some i) (hz : i.zero = some z)
    (hsize : i.size = 32) (hby : i.bytes = 32) (hzs : z.cells.size = 32)
    (g : Nat) (S : List UInt8) (hs : a.eval s = .slice (some ⟨g, 0, none⟩) 1 1) (hblk : Blk w g (hc S) e) (hS : S.length = 32) (hbg : base ≤ g)
    (v : Value) (n : Nat) (R : List (List UInt8)) (hx : a.eval x = v) (hown : w.ownsRow base e 32 v n (hflat R)) (hn : R.length = n) (h32 : ∀ r ∈ R, r.length = 32) (hl : n ≤ 1000000) (hbase : base ≤ w.heap.size)
    (h : ∀ v' w', w'.ownsRow base e 32 v' (n + 1) (hflat (S :: R)) → w.grownBy w' (some g) → wpList P ops Q rest (a.put o.dst v') w') : wpList P ops Q (o :: rest) a w := by
  have hfl : (hflat R).length = n * 32 := by unfold hflat; rw [List.length_map, flatten_len h32, hn]
  have hcons : hflat (S :: R) = S.map bcell ++ hflat R := by unfold hflat; simp
  have hos : w.ownsRow base e 32 (.slice (some ⟨g, 0, none⟩) 1 1) 1 (S.map bcell) := by
    have := hblk.owns (base := base) (size := 32) (n := 1) hbg (by decide) (by rw [hc_size, hS])
    rwa [hc_toList] at this
  rcases hown.2 with ⟨rfl, hn0⟩ | ⟨q, cap, cur, rfl, hbq, hq, hnc, hcm, hcs, htake⟩
  · subst hn0
    have hR : R = [] := List.eq_nil_of_length_eq_zero hn
    subst hR
    refine wpList_plain hgd fun _ hK => ?_
    have hr : (Builtin.append_ #[t, t] o.type #[.slice (some ⟨g, 0, none⟩) 1 1, .slice none 0 0]).run P w = .ok (.slice (some ⟨g, 0, none⟩) 1 1) w := by
      simp [Builtin.append_, run_underlying ht, sizeOf, typeInfo, hi, Builtin.lenOf, Builtin.firstCells, loadCells, loadCellsFrom, storeCells]
    unfold Oper.wp execOp
    simp only [ho, resolve, invoke, builtin, Sem.run_bind, Sem.run_pure, Result.andThen_ok, List.map_toArray, List.map_cons, List.map_nil, hs, hx, hr]
    refine hK _ _ (h _ _ ?_ (World.grownBy.refl w _))
    rw [hcons, show hflat [] = [] from rfl, List.append_nil]
    exact hos
  · refine wpList_app hgd s x t ho base e i z 32 32 ht hi hz hsize hby hzs (by decide) _ 1 (S.map bcell) hs hos ⟨q, 0, none⟩ n cap (hflat R) hx (by rw [hfl]) (hown.cells (g := q) rfl) (by unfold hflat; exact bcell_one _) (by unfold maxLen; omega) (by omega) hbase ?_
    intro v' w' h1 h2 _
    refine h v' w' ?_ h2
    rw [hcons, Nat.add_comm n 1]; exact h1
end Go.Spec
namespace Go.Proofs.YtbpjlancjdbehaaDoor
open Go.RowKit Go.Spec
def tpIn (l : List (List UInt8)) (i n : Int) : Prop := 0 ≤ n ∧ n ≤ l.length ∧ 0 ≤ i ∧ i < n
instance (l : List (List UInt8)) (i n : Int) : Decidable (tpIn l i n) := by unfold tpIn; infer_instance
def tpathX (l : List (List UInt8)) (i n : Int) : List (List UInt8) := if tpIn l i n then pathL (l.take n.toNat) i.toNat else []
def tpathE (l : List (List UInt8)) (i n : Int) : Int := if tpIn l i n then 0 else 82
set_option maxHeartbeats 2000000 in
theorem tpath_out (g b : Nat) (l : List (List UInt8)) (i n : Int) (w : World) (h : TilesAt w g b l) (hn : ¬ tpIn l i n) :
    Calls Tryd.prog 16 #[.pointer (some ⟨g, 0, none⟩), .int .i64 i, .int .i64 n] w fun e w' => e = .returned (.tuple #[.slice none 0 0, .int .i64 82]) ∧ Below w.heap.size w w' := by
  have HW := hid (within_any g b l n w h)
  have hE : withE l n = 0 ∨ withE l n = 82 := by unfold withE; split <;> simp
  rcases hE with hE | hE
  · have hnn : 0 ≤ n ∧ n ≤ l.length := by
      unfold withE at hE
      split at hE
      · assumption
      · cases hE
    rw [hE] at HW
    by_cases h0 : i < 0
    · have d0 : decide (i < 0) = true := by simpa using h0
      clear h hn hE hnn h0
      go_enter Tryd.func16, Tryd.ntmps16
      go_wp2_with (go_at_call 43; refine HW.out.mono ?_; rintro e w1 ⟨rfl, rfl⟩)
      go_ret2
      exact ⟨rfl, Below.refl _ _⟩
    · have d0 : decide (i < 0) = false := by simpa using h0
      have d1 : decide (n ≤ i) = true := by unfold tpIn at hn; simp; omega
      clear h hn hE hnn h0
      go_enter Tryd.func16, Tryd.ntmps16
      go_wp2_with (go_at_call 43; refine HW.out.mono ?_; rintro e w1 ⟨rfl, rfl⟩)
      go_ret2
      exact ⟨rfl, Below.refl _ _⟩
  · rw [hE] at HW
    clear h hn hE
    go_enter Tryd.func16, Tryd.ntmps16
    go_wp2_with (go_at_call 43; refine HW.out.mono ?_; rintro e w1 ⟨rfl, rfl⟩)
    go_ret2
    exact ⟨rfl, Below.refl _ _⟩
set_option maxHeartbeats 4000000 in
theorem tpath_in (g b : Nat) (l : List (List UInt8)) (i n : Nat) (w : World) (h : TilesAt w g b l) (hn : n ≤ l.length) (hi : i < n) (hG : ShaG w) :
    Calls Tryd.prog 16 #[.pointer (some ⟨g, 0, none⟩), .int .i64 (i : Int), .int .i64 (n : Int)] w fun e w' => (∃ u, e = .returned (.tuple #[u, .int .i64 0]) ∧ w'.ownsRow w.heap.size 29 32 u (pathL (l.take n) i).length (hflat (pathL (l.take n) i))) ∧ Below w.heap.size w w' := by
  obtain ⟨i0, hi0, hz0, hz1, hz2⟩ := info_parts Tryd.infoHash
  have HW := hid (within_any g b l (n : Int) w h)
  have hE : withE l (n : Int) = 0 := by unfold withE; rw [if_pos (by omega)]
  rw [hE] at HW
  have hl4 := h.len
  have d0 : decide ((i : Int) < 0) = false := by simp
  have d1 : decide (n ≤ i) = false := by simp; omega
  have h32 := h.r32
  have HP32 := hid (path_32 n (l.take n) i (by rw [List.length_take]; omega) (fun x hx => h32 x (List.mem_of_mem_take hx)))
  have hPl := path_len (l.take n) i 12 (by rw [List.length_take]; omega) (by rw [List.length_take]; omega)
  have HT := hid h; have HG := hid hG; have H32 := hid h32
  obtain ⟨P, hP⟩ : ∃ P, pathL (l.take n) i = P := ⟨_, rfl⟩
  rw [hP] at HP32 hPl ⊢
  have hP0 : P = pathL (seg l 0 n) (i - 0) := by rw [← hP]; rfl
  have HP0 := hid hP0
  have HPl := hid hPl
  have hn4 : n ≤ 4096 := by omega
  have Hn := hid hn; have Hi := hid hi
  clear h hG h32 hE hP hP0 hl4 hPl hn
  go_enter Tryd.func16, Tryd.ntmps16
  go_wp2_with (go_at_call 43; refine HW.out.mono ?_; rintro e w1 ⟨rfl, rfl⟩)
  go_loopw [9, 10, 11] (fun ov fv tv wr => ∃ (R : List (List UInt8)) (f t : Nat), fv = .int .i64 (f : Int) ∧ tv = .int .i64 (t : Int) ∧ f ≤ i ∧ i < t ∧ t ≤ n ∧ lined f t ∧ P = pathL (seg l f t) (i - f) ++ R ∧ wr.ownsRow w.heap.size 29 32 ov R.length (hflat R) ∧ Below w.heap.size w wr) (fun _ fv tv _ => (intOf tv - intOf fv).toNat)
  case atStart => exact ⟨[], 0, n, rfl, rfl, by omega, Hi.out, Nat.le_refl _, lined_zero n, by rw [HP0.out]; simp, World.ownsRow_nil _ _ _ _, Below.refl _ _⟩
  case round =>
    obtain ⟨R, f, t, rfl, rfl, hfi, hit, htn, hal, hPe, hown, hb⟩ := hrel
    obtain ⟨d, hd⟩ : ∃ d, t - f = d := ⟨_, rfl⟩
    have ed : (t : Int) - (f : Int) = (d : Int) := by omega
    have Hd := hid hd
    by_cases h2 : 2 ≤ d
    · have hd2 : decide ((1 : Int) < (d : Int)) = true := by simp; omega
      obtain ⟨hk0, hk1⟩ := splitN_in d h2
      have Hsp := hid (fun w0 => split_big d w0 h2 (by omega))
      have hls := lined_split hal (by omega)
      have hsp := seg_path l f t i (by have := Hn.out; omega) (by omega) hfi
      rw [hd] at hls hsp
      have hR32 : ∀ x ∈ R, x.length = 32 := fun x hx => HP32.out x (by rw [hPe]; exact List.mem_append_right _ hx)
      have hRl : R.length ≤ 12 := by have := HPl.out; rw [hPe, List.length_append] at this; omega
      have HR32 := hid hR32; have HRl := hid hRl
      generalize splitN d = k at *
      obtain ⟨m, hm⟩ : ∃ m, f + k = m := ⟨_, rfl⟩
      have em : (f : Int) + (k : Int) = (m : Int) := by omega
      rw [hm] at hls hsp
      have Hm := hid hm
      have hmt : m < t := by omega
      have hfm : f < m := by omega
      have hm4 : m ≤ 4096 := by omega
      have ht4 : t ≤ 4096 := by omega
      have Hls := hid hls
      have Hown := hid hown; have Hb := hid hb; have HPe := hid hPe
      have Q1 := hid (fun w0 hT0 h0 => troot_any g b l m t w0 (by omega) (by have := Hn.out; omega) hls.2 hT0 h0)
      have Q2 := hid (fun w0 hT0 h0 => troot_any g b l f m w0 (by omega) (by have := Hn.out; omega) hls.1 hT0 h0)
      have L1 := rootL_len _ (seg l m t) (Nat.le_refl _) (seg_32 H32.out _ _)
      have L2 := rootL_len _ (seg l f m) (Nat.le_refl _) (seg_32 H32.out _ _)
      generalize rootL (seg l m t) = A at *
      generalize rootL (seg l f m) = B at *
      have Hsp2 := hid hsp
      have SA := hid (show (Tryd.prog.info? 29).map (·.size) = some A.length by rw [L1]; exact Tryd.sizeHash)
      have SB := hid (show (Tryd.prog.info? 29).map (·.size) = some B.length by rw [L2]; exact Tryd.sizeHash)
      have LA := hid L1; have LB := hid L2
      clear hls hsp hR32 hRl hd hm hown hb hPe hal L1 L2
      by_cases him : i < m
      · have hdi : decide (i < m) = true := by simpa using him
        go_wp2_with (first
          | (go_at_call 45; refine (Hsp.out _).mono ?_; rintro e w2 ⟨rfl, rfl⟩)
          | (go_at_call 44; refine (Q1.out _ (HT.out.later Hb.out) (HG.out.later Hb.out)).mono ?_; rintro e w3 ⟨rfl, hb3⟩)
          | ((with_reducible show wpList _ _ _ ({ dst := _, op := Op.store _ _ _, type := _, pos := _, after := _, guard := _ } :: _) _ _); refine wpList_store_new rfl 29 _ _ rfl rfl A rfl (hc zero32) 29 (by rw [LA.out]; rfl) SA.out ?_)
          | ((with_reducible show wpList _ _ _ ({ dst := _, op := Op.load 29 _, type := _, pos := _, after := _, guard := _ } :: _) _ _); refine wpList_load_new rfl 29 _ rfl rfl A 29 _ Tryd.underlying29 rfl SA.out ?_)
          | (refine wpList_buildSlice_one rfl 22 29 _ rfl 32 (hv zero32) (hv A) (hc A) rfl Tryd.underlying22 Tryd.infoHash2 rfl (by rw [hc_size, LA.out]) (by decide) (by decide) ?_)
          | (at_builtin; go_must (refine wpList_prepend rfl _ _ 22 rfl w.heap.size 29 i0 (hv zero32) Tryd.underlying22 hi0 hz0 hz1 hz2 rfl (w3.heap.size + 1) A rfl ?c1 LA.out ?c2 _ R.length R rfl ?c3 rfl HR32.out ?c4 ?c5 ?_)))
        case c1 => exact Blk.new' _ _ _ (by simp)
        case c2 => have := (bth Hb.out hb3).size; omega
        case c3 => exact ((Hown.out.later hb3).alloc _).alloc _
        case c4 => have := HRl.out; omega
        case c5 => have := (bth Hb.out hb3).size; simp; omega
        intro v' w5 hown5 hgrow
        have hb4 := ((bth Hb.out hb3).alloc (bth Hb.out hb3).size (.cells (hc A) 29)).alloc (by have := (bth Hb.out hb3).size; simp; omega) (.cells (hc A) 29)
        have hb5 := hb4.grown hgrow hb4.size (fun q hq => by injection hq with hq; have := (bth Hb.out hb3).size; omega)
        go_wp2
        go_roundw
        case rel =>
          refine ⟨A :: R, f, m, by go_num, by go_num, hfi, him, by omega, Hls.out.1, ?_, hown5, hb5⟩
          rw [HPe.out, Hsp2.out, if_pos him]; simp
        case measure => simp [intOf]; omega
      · have hdi : decide (i < m) = false := by simpa using him
        go_wp2_with (first
          | (go_at_call 45; refine (Hsp.out _).mono ?_; rintro e w2 ⟨rfl, rfl⟩)
          | (go_at_call 44; first
              | ((with_reducible refine (Q1.out _ (HT.out.later Hb.out) (HG.out.later Hb.out)).mono ?_); rintro e w3 ⟨rfl, hb3⟩; have HB3 := hid (bth Hb.out hb3); have Hb3 := hid hb3; have HZ := hid (Blk.new w3 (hc A) 29); have HBa := hid ((bth Hb.out hb3).alloc (bth Hb.out hb3).size (.cells (hc A) 29)); clear hb3)
              | ((with_reducible refine (Q2.out _ (HT.out.later HBa.out) (HG.out.later HBa.out)).mono ?_); rintro e w4 ⟨rfl, hb4⟩; have HZ4 := hid (HZ.out.later hb4); have HB4 := hid (bth HBa.out hb4)))
          | ((with_reducible show wpList _ _ _ ({ dst := _, op := Op.store _ _ _, type := _, pos := _, after := _, guard := _ } :: _) _ (World.alloc w3 _)); refine wpList_store_new rfl 29 _ _ rfl rfl A rfl (hc zero32) 29 (by rw [LA.out]; rfl) SA.out ?_)
          | ((with_reducible show wpList _ _ _ ({ dst := _, op := Op.store _ _ _, type := _, pos := _, after := _, guard := _ } :: _) _ _); refine wpList_store_blk rfl 29 _ _ rfl w3.heap.size rfl (hc B) rfl _ _ HZ4.out (by rw [hc_size, hc_size, LA.out, LB.out]) (by rw [hc_size]; exact SB.out) (hc_row_one _) ?_)
          | ((with_reducible show wpList _ _ _ ({ dst := _, op := Op.load 29 _, type := _, pos := _, after := _, guard := _ } :: _) _ _); refine wpList_load_blk rfl 29 _ rfl w3.heap.size rfl 29 (hc B) _ (HZ4.out.setRow) Tryd.underlying29 rfl (by rw [hc_size]; exact SB.out) ?_)
          | (refine wpList_buildSlice_one rfl 22 29 _ rfl 32 (hv zero32) (hv B) (hc B) rfl Tryd.underlying22 Tryd.infoHash2 rfl (by rw [hc_size, LB.out]) (by decide) (by decide) ?_)
          | (at_builtin; go_must (refine wpList_prepend rfl _ _ 22 rfl w.heap.size 29 i0 (hv zero32) Tryd.underlying22 hi0 hz0 hz1 hz2 rfl w4.heap.size B rfl ?c1 LB.out ?c2 _ R.length R rfl ?c3 rfl HR32.out ?c4 ?c5 ?_)))
        case c1 => exact Blk.new' _ _ _ (by rw [setRow_size'])
        case c2 => have := HB4.out.size; omega
        case c3 =>
          have h1 := ((Hown.out.later Hb3.out).alloc (.cells (hc A) 29)).later hb4
          have hg : w4.grownBy (w4.setRow w3.heap.size (hc B)) (some w3.heap.size) := ⟨rfl, rfl, rfl, by rw [setRow_size']; exact Nat.le_refl _, fun k _ hk => setRow_ne (fun e => hk (by rw [e]))⟩
          refine World.ownsRow.alloc (h1.kept hg (.inr fun e => ?_)) _
          have := (Hown.out.later Hb3.out).lt _ e
          omega
        case c4 => have := HRl.out; omega
        case c5 => have := HB4.out.size; simp [setRow_size']; omega
        intro v' w5 hown5 hgrow
        have hb5 := ((HB4.out.setRow (g := w3.heap.size) HB3.out.size (hc B)).alloc (by rw [setRow_size']; exact HB4.out.size) (.cells (hc B) 29)).grown hgrow (by have := HB4.out.size; simp [setRow_size']; omega) (fun q hq => by injection hq with hq; have := HB4.out.size; omega)
        go_wp2
        go_roundw
        case rel =>
          refine ⟨B :: R, m, t, by go_num, by go_num, by omega, hit, htn, Hls.out.2, ?_, hown5, hb5⟩
          rw [HPe.out, Hsp2.out, if_neg him]; simp
        case measure => simp [intOf]; omega
    · have hd2 : decide ((1 : Int) < (d : Int)) = false := by simp; omega
      have hone := path_one (seg l f t) (i - f) (by rw [seg_len _ _ _ (by have := Hn.out; omega)]; omega)
      rw [hone, List.nil_append] at hPe
      have Hown := hid hown; have HPe := hid hPe
      clear hown hPe hone hal
      go_wp2_with fail
      go_ret2
      refine ⟨⟨_, rfl, ?_⟩, hb⟩
      rw [HPe.out]; exact Hown.out
theorem tpath_any (g b : Nat) (l : List (List UInt8)) (i n : Int) (w : World) (h : TilesAt w g b l) (hG : ShaG w) :
    Calls Tryd.prog 16 #[.pointer (some ⟨g, 0, none⟩), .int .i64 i, .int .i64 n] w fun e w' => (∃ u, e = .returned (.tuple #[u, .int .i64 (tpathE l i n)]) ∧ SlAt w' 32 u (hcs (tpathX l i n))) ∧ Below w.heap.size w w' := by
  unfold tpathE tpathX
  by_cases hn : tpIn l i n
  · rw [if_pos hn, if_pos hn]
    obtain ⟨h1, h2, h3, h4⟩ := hn
    obtain ⟨a, rfl⟩ : ∃ a : Nat, i = a := ⟨i.toNat, by omega⟩
    obtain ⟨m, rfl⟩ : ∃ m : Nat, n = m := ⟨n.toNat, by omega⟩
    have h32 := h.r32
    exact (tpath_in g b l a m w h (by omega) (by omega) hG).mono fun _ _ ⟨⟨u, he, hown⟩, hb⟩ => ⟨⟨u, he, SlAt.of_owns (size := 32) (hs := pathL (l.take m) a) hown (path_32 m (l.take m) a (by rw [List.length_take]; omega) (fun x hx => h32 x (List.mem_of_mem_take hx)))⟩, hb⟩
  · rw [if_neg hn, if_neg hn]
    exact (tpath_out g b l i n w h hn).mono fun _ _ ⟨a, b⟩ => ⟨⟨_, a, slNil _⟩, b⟩
end Go.Proofs.YtbpjlancjdbehaaDoor
/- tiles.Proof -/
namespace Go.Proofs.YtbpjlancjdbehaaDoor
open Go.RowKit Go.Spec
def tqIn (l : List (List UInt8)) (m n : Int) : Prop := 0 ≤ n ∧ n ≤ l.length ∧ 0 ≤ m ∧ m ≤ n
instance (l : List (List UInt8)) (m n : Int) : Decidable (tqIn l m n) := by unfold tqIn; infer_instance
def tproofX (l : List (List UInt8)) (m n : Int) : List (List UInt8) := if tqIn l m n ∧ m ≠ 0 then subL (l.take n.toNat) m.toNat true else []
def tproofE (l : List (List UInt8)) (m n : Int) : Int := if tqIn l m n then 0 else 82
set_option maxHeartbeats 2000000 in
theorem tproof_out (g b : Nat) (l : List (List UInt8)) (i n : Int) (w : World) (h : TilesAt w g b l) (hn : ¬ tqIn l i n) :
    Calls Tryd.prog 18 #[.pointer (some ⟨g, 0, none⟩), .int .i64 i, .int .i64 n] w fun e w' => e = .returned (.tuple #[.slice none 0 0, .int .i64 82]) ∧ Below w.heap.size w w' := by
  have HW := hid (within_any g b l n w h)
  have hE : withE l n = 0 ∨ withE l n = 82 := by unfold withE; split <;> simp
  rcases hE with hE | hE
  · have hnn : 0 ≤ n ∧ n ≤ l.length := by
      unfold withE at hE
      split at hE
      · assumption
      · cases hE
    rw [hE] at HW
    by_cases h0 : i < 0
    · have d0 : decide (i < 0) = true := by simpa using h0
      clear h hn hE hnn h0
      go_enter Tryd.func18, Tryd.ntmps18
      go_wp2_with (go_at_call 43; refine HW.out.mono ?_; rintro e w1 ⟨rfl, rfl⟩)
      go_ret2
      exact ⟨rfl, Below.refl _ _⟩
    · have d0 : decide (i < 0) = false := by simpa using h0
      have d1 : decide (n < i) = true := by unfold tqIn at hn; simp; omega
      clear h hn hE hnn h0
      go_enter Tryd.func18, Tryd.ntmps18
      go_wp2_with (go_at_call 43; refine HW.out.mono ?_; rintro e w1 ⟨rfl, rfl⟩)
      go_ret2
      exact ⟨rfl, Below.refl _ _⟩
  · rw [hE] at HW
    clear h hn hE
    go_enter Tryd.func18, Tryd.ntmps18
    go_wp2_with (go_at_call 43; refine HW.out.mono ?_; rintro e w1 ⟨rfl, rfl⟩)
    go_ret2
    exact ⟨rfl, Below.refl _ _⟩
set_option maxHeartbeats 2000000 in
theorem tproof_zero (g b : Nat) (l : List (List UInt8)) (n : Nat) (w : World) (h : TilesAt w g b l) (hn : n ≤ l.length) :
    Calls Tryd.prog 18 #[.pointer (some ⟨g, 0, none⟩), .int .i64 0, .int .i64 (n : Int)] w fun e w' => e = .returned (.tuple #[.slice none 0 0, .int .i64 0]) ∧ Below w.heap.size w w' := by
  have HW := hid (within_any g b l (n : Int) w h)
  have hE : withE l (n : Int) = 0 := by unfold withE; rw [if_pos (by omega)]
  rw [hE] at HW
  have d1 : decide ((n : Int) < 0) = false := by simp
  clear h hE hn
  go_enter Tryd.func18, Tryd.ntmps18
  go_wp2_with (go_at_call 43; refine HW.out.mono ?_; rintro e w1 ⟨rfl, rfl⟩)
  go_ret2
  exact ⟨rfl, Below.refl _ _⟩
set_option maxHeartbeats 4000000 in
theorem tproof_in (g b : Nat) (l : List (List UInt8)) (i n : Nat) (w : World) (h : TilesAt w g b l) (hn : n ≤ l.length) (h1 : 1 ≤ i) (hi : i ≤ n) (hG : ShaG w) :
    Calls Tryd.prog 18 #[.pointer (some ⟨g, 0, none⟩), .int .i64 (i : Int), .int .i64 (n : Int)] w fun e w' => (∃ u, e = .returned (.tuple #[u, .int .i64 0]) ∧ w'.ownsRow w.heap.size 29 32 u (subL (l.take n) i true).length (hflat (subL (l.take n) i true))) ∧ Below w.heap.size w w' := by
  obtain ⟨i0, hi0, hz0, hz1, hz2⟩ := info_parts Tryd.infoHash
  have HW := hid (within_any g b l (n : Int) w h)
  have hE : withE l (n : Int) = 0 := by unfold withE; rw [if_pos (by omega)]
  rw [hE] at HW
  have hl4 := h.len
  have d0 : decide ((i : Int) < 0) = false := by simp
  have d1 : decide (n < i) = false := by simp; omega
  have d2 : ((i : Int) == 0) = false := by rw [beq_eq_false_iff_ne]; omega
  have h32 := h.r32
  have HP32 := hid (sub_32 n (l.take n) i true (by rw [List.length_take]; omega) h1 (by rw [List.length_take]; omega) (fun x hx => h32 x (List.mem_of_mem_take hx)))
  have hPl := sub_len 12 (l.take n) i true h1 (by rw [List.length_take]; omega) (by rw [List.length_take]; omega)
  have HT := hid h; have HG := hid hG; have H32 := hid h32
  obtain ⟨P, hP⟩ : ∃ P, subL (l.take n) i true = P := ⟨_, rfl⟩
  rw [hP] at HP32 hPl ⊢
  have hP0 : P = subL (seg l 0 n) (i - 0) (decide (0 = 0)) := by rw [← hP]; rfl
  have HP0 := hid hP0
  have HPl := hid hPl
  have hn4 : n ≤ 4096 := by omega
  have Hn := hid hn; have Hi := hid hi
  clear h hG h32 hE hP hP0 hl4 hPl hn
  go_enter Tryd.func18, Tryd.ntmps18
  go_wp2_with (go_at_call 43; refine HW.out.mono ?_; rintro e w1 ⟨rfl, rfl⟩)
  go_loopw [9, 10, 11] (fun ov fv tv wr => ∃ (R : List (List UInt8)) (f t : Nat), fv = .int .i64 (f : Int) ∧ tv = .int .i64 (t : Int) ∧ f < i ∧ i ≤ t ∧ t ≤ n ∧ lined f t ∧ P = subL (seg l f t) (i - f) (decide (f = 0)) ++ R ∧ wr.ownsRow w.heap.size 29 32 ov R.length (hflat R) ∧ Below w.heap.size w wr) (fun _ fv tv _ => (intOf tv - intOf fv).toNat)
  case atStart => exact ⟨[], 0, n, rfl, rfl, by omega, Hi.out, Nat.le_refl _, lined_zero n, by rw [HP0.out]; simp, World.ownsRow_nil _ _ _ _, Below.refl _ _⟩
  case round =>
    obtain ⟨R, f, t, rfl, rfl, hfi, hit, htn, hal, hPe, hown, hb⟩ := hrel
    obtain ⟨d, hd⟩ : ∃ d, t - f = d := ⟨_, rfl⟩
    have ed : (t : Int) - (f : Int) = (d : Int) := by omega
    have Hd := hid hd
    by_cases h2 : i < t
    · have hd2 : decide (i < t) = true := by simpa using h2
      have h2 : 2 ≤ d := by omega
      obtain ⟨hk0, hk1⟩ := splitN_in d h2
      have Hsp := hid (fun w0 => split_big d w0 h2 (by omega))
      have hls := lined_split hal (by omega)
      have hsp := seg_sub l f t i (decide (f = 0)) (by have := Hn.out; omega) hfi (by omega)
      rw [hd] at hls hsp
      have hR32 : ∀ x ∈ R, x.length = 32 := fun x hx => HP32.out x (by rw [hPe]; exact List.mem_append_right _ hx)
      have hRl : R.length ≤ 13 := by have := HPl.out; rw [hPe, List.length_append] at this; omega
      have HR32 := hid hR32; have HRl := hid hRl
      generalize splitN d = k at *
      obtain ⟨m, hm⟩ : ∃ m, f + k = m := ⟨_, rfl⟩
      have em : (f : Int) + (k : Int) = (m : Int) := by omega
      rw [hm] at hls hsp
      have Hm := hid hm
      have hmt : m < t := by omega
      have hfm : f < m := by omega
      have hm4 : m ≤ 4096 := by omega
      have ht4 : t ≤ 4096 := by omega
      have Hls := hid hls
      have Hown := hid hown; have Hb := hid hb; have HPe := hid hPe
      have Q1 := hid (fun w0 hT0 h0 => troot_any g b l m t w0 (by omega) (by have := Hn.out; omega) hls.2 hT0 h0)
      have Q2 := hid (fun w0 hT0 h0 => troot_any g b l f m w0 (by omega) (by have := Hn.out; omega) hls.1 hT0 h0)
      have L1 := rootL_len _ (seg l m t) (Nat.le_refl _) (seg_32 H32.out _ _)
      have L2 := rootL_len _ (seg l f m) (Nat.le_refl _) (seg_32 H32.out _ _)
      generalize rootL (seg l m t) = A at *
      generalize rootL (seg l f m) = B at *
      have Hsp2 := hid hsp
      have SA := hid (show (Tryd.prog.info? 29).map (·.size) = some A.length by rw [L1]; exact Tryd.sizeHash)
      have SB := hid (show (Tryd.prog.info? 29).map (·.size) = some B.length by rw [L2]; exact Tryd.sizeHash)
      have LA := hid L1; have LB := hid L2
      clear hls hsp hR32 hRl hd hm hown hb hPe hal L1 L2
      by_cases him : i ≤ m
      · have hdi : decide (i ≤ m) = true := by simpa using him
        go_wp2_with (first
          | (go_at_call 45; refine (Hsp.out _).mono ?_; rintro e w2 ⟨rfl, rfl⟩)
          | (go_at_call 44; refine (Q1.out _ (HT.out.later Hb.out) (HG.out.later Hb.out)).mono ?_; rintro e w3 ⟨rfl, hb3⟩)
          | ((with_reducible show wpList _ _ _ ({ dst := _, op := Op.store _ _ _, type := _, pos := _, after := _, guard := _ } :: _) _ _); refine wpList_store_new rfl 29 _ _ rfl rfl A rfl (hc zero32) 29 (by rw [LA.out]; rfl) SA.out ?_)
          | ((with_reducible show wpList _ _ _ ({ dst := _, op := Op.load 29 _, type := _, pos := _, after := _, guard := _ } :: _) _ _); refine wpList_load_new rfl 29 _ rfl rfl A 29 _ Tryd.underlying29 rfl SA.out ?_)
          | (refine wpList_buildSlice_one rfl 22 29 _ rfl 32 (hv zero32) (hv A) (hc A) rfl Tryd.underlying22 Tryd.infoHash2 rfl (by rw [hc_size, LA.out]) (by decide) (by decide) ?_)
          | (at_builtin; go_must (refine wpList_prepend rfl _ _ 22 rfl w.heap.size 29 i0 (hv zero32) Tryd.underlying22 hi0 hz0 hz1 hz2 rfl (w3.heap.size + 1) A rfl ?c1 LA.out ?c2 _ R.length R rfl ?c3 rfl HR32.out ?c4 ?c5 ?_)))
        case c1 => exact Blk.new' _ _ _ (by simp)
        case c2 => have := (bth Hb.out hb3).size; omega
        case c3 => exact ((Hown.out.later hb3).alloc _).alloc _
        case c4 => have := HRl.out; omega
        case c5 => have := (bth Hb.out hb3).size; simp; omega
        intro v' w5 hown5 hgrow
        have hb4 := ((bth Hb.out hb3).alloc (bth Hb.out hb3).size (.cells (hc A) 29)).alloc (by have := (bth Hb.out hb3).size; simp; omega) (.cells (hc A) 29)
        have hb5 := hb4.grown hgrow hb4.size (fun q hq => by injection hq with hq; have := (bth Hb.out hb3).size; omega)
        go_wp2
        go_roundw
        case rel =>
          refine ⟨A :: R, f, m, by go_num, by go_num, hfi, him, by omega, Hls.out.1, ?_, hown5, hb5⟩
          rw [HPe.out, Hsp2.out, if_pos him]; simp
        case measure => simp [intOf]; omega
      · have hdi : decide (i ≤ m) = false := by simpa using him
        go_wp2_with (first
          | (go_at_call 45; refine (Hsp.out _).mono ?_; rintro e w2 ⟨rfl, rfl⟩)
          | (go_at_call 44; first
              | ((with_reducible refine (Q1.out _ (HT.out.later Hb.out) (HG.out.later Hb.out)).mono ?_); rintro e w3 ⟨rfl, hb3⟩; have HB3 := hid (bth Hb.out hb3); have Hb3 := hid hb3; have HZ := hid (Blk.new w3 (hc A) 29); have HBa := hid ((bth Hb.out hb3).alloc (bth Hb.out hb3).size (.cells (hc A) 29)); clear hb3)
              | ((with_reducible refine (Q2.out _ (HT.out.later HBa.out) (HG.out.later HBa.out)).mono ?_); rintro e w4 ⟨rfl, hb4⟩; have HZ4 := hid (HZ.out.later hb4); have HB4 := hid (bth HBa.out hb4)))
          | ((with_reducible show wpList _ _ _ ({ dst := _, op := Op.store _ _ _, type := _, pos := _, after := _, guard := _ } :: _) _ (World.alloc w3 _)); refine wpList_store_new rfl 29 _ _ rfl rfl A rfl (hc zero32) 29 (by rw [LA.out]; rfl) SA.out ?_)
          | ((with_reducible show wpList _ _ _ ({ dst := _, op := Op.store _ _ _, type := _, pos := _, after := _, guard := _ } :: _) _ _); refine wpList_store_blk rfl 29 _ _ rfl w3.heap.size rfl (hc B) rfl _ _ HZ4.out (by rw [hc_size, hc_size, LA.out, LB.out]) (by rw [hc_size]; exact SB.out) (hc_row_one _) ?_)
          | ((with_reducible show wpList _ _ _ ({ dst := _, op := Op.load 29 _, type := _, pos := _, after := _, guard := _ } :: _) _ _); refine wpList_load_blk rfl 29 _ rfl w3.heap.size rfl 29 (hc B) _ (HZ4.out.setRow) Tryd.underlying29 rfl (by rw [hc_size]; exact SB.out) ?_)
          | (refine wpList_buildSlice_one rfl 22 29 _ rfl 32 (hv zero32) (hv B) (hc B) rfl Tryd.underlying22 Tryd.infoHash2 rfl (by rw [hc_size, LB.out]) (by decide) (by decide) ?_)
          | (at_builtin; go_must (refine wpList_prepend rfl _ _ 22 rfl w.heap.size 29 i0 (hv zero32) Tryd.underlying22 hi0 hz0 hz1 hz2 rfl w4.heap.size B rfl ?c1 LB.out ?c2 _ R.length R rfl ?c3 rfl HR32.out ?c4 ?c5 ?_)))
        case c1 => exact Blk.new' _ _ _ (by rw [setRow_size'])
        case c2 => have := HB4.out.size; omega
        case c3 =>
          have h1 := ((Hown.out.later Hb3.out).alloc (.cells (hc A) 29)).later hb4
          have hg : w4.grownBy (w4.setRow w3.heap.size (hc B)) (some w3.heap.size) := ⟨rfl, rfl, rfl, by rw [setRow_size']; exact Nat.le_refl _, fun k _ hk => setRow_ne (fun e => hk (by rw [e]))⟩
          refine World.ownsRow.alloc (h1.kept hg (.inr fun e => ?_)) _
          have := (Hown.out.later Hb3.out).lt _ e
          omega
        case c4 => have := HRl.out; omega
        case c5 => have := HB4.out.size; simp [setRow_size']; omega
        intro v' w5 hown5 hgrow
        have hb5 := ((HB4.out.setRow (g := w3.heap.size) HB3.out.size (hc B)).alloc (by rw [setRow_size']; exact HB4.out.size) (.cells (hc B) 29)).grown hgrow (by have := HB4.out.size; simp [setRow_size']; omega) (fun q hq => by injection hq with hq; have := HB4.out.size; omega)
        go_wp2
        go_roundw
        case rel =>
          refine ⟨B :: R, m, t, by go_num, by go_num, by omega, hit, htn, Hls.out.2, ?_, hown5, hb5⟩
          rw [HPe.out, Hsp2.out, if_neg him, decide_eq_false (show ¬ m = 0 by omega)]; simp
        case measure => simp [intOf]; omega
    · have hd2 : decide (i < t) = false := by simpa using h2
      obtain rfl : i = t := by omega
      have hlen : (seg l f i).length = i - f := seg_len _ _ _ (by have := Hn.out; omega)
      have hall := sub_all (seg l f i) (decide (f = 0)) (by omega)
      rw [hlen] at hall
      rw [hall] at hPe
      have hR32 : ∀ x ∈ R, x.length = 32 := fun x hx => HP32.out x (by rw [hPe]; exact List.mem_append_right _ hx)
      have hRl : R.length ≤ 13 := by have := HPl.out; rw [hPe, List.length_append] at this; omega
      have HR32 := hid hR32; have HRl := hid hRl
      have Hown := hid hown; have HPe := hid hPe; have Hb := hid hb
      by_cases hf : f = 0
      · have hdf : decide (0 < f) = false := by simp; omega
        rw [hf] at hPe
        simp only [decide_true, if_true, List.nil_append] at hPe
        have HPe := hid hPe
        clear hown hPe hall hal hR32 hRl hb
        go_wp2_with fail
        go_ret2
        refine ⟨⟨_, rfl, ?_⟩, Hb.out⟩
        rw [HPe.out]; exact Hown.out
      · have hdf : decide (0 < f) = true := by simp; omega
        rw [decide_eq_false hf] at hPe
        simp only [Bool.false_eq_true, if_false, List.singleton_append] at hPe
        have HPe := hid hPe
        have Q1 := hid (fun w0 hT0 h0 => troot_any g b l f i w0 (by omega) (by have := Hn.out; omega) hal hT0 h0)
        have L1 := rootL_len _ (seg l f i) (Nat.le_refl _) (seg_32 H32.out _ _)
        generalize rootL (seg l f i) = A at *
        have LA := hid L1
        clear hown hPe hall hal hR32 hRl hb L1
        go_wp2_with (first
          | (go_at_call 44; refine (Q1.out _ (HT.out.later Hb.out) (HG.out.later Hb.out)).mono ?_; rintro e w3 ⟨rfl, hb3⟩)
          | (refine wpList_buildSlice_one rfl 22 29 _ rfl 32 (hv zero32) (hv A) (hc A) rfl Tryd.underlying22 Tryd.infoHash2 rfl (by rw [hc_size, LA.out]) (by decide) (by decide) ?_)
          | (at_builtin; go_must (refine wpList_prepend rfl _ _ 22 rfl w.heap.size 29 i0 (hv zero32) Tryd.underlying22 hi0 hz0 hz1 hz2 rfl w3.heap.size A rfl ?c1 LA.out ?c2 _ R.length R rfl ?c3 rfl HR32.out ?c4 ?c5 ?_)))
        case c1 => exact Blk.new _ _ _
        case c2 => exact (bth Hb.out hb3).size
        case c3 => exact (Hown.out.later hb3).alloc _
        case c4 => have := HRl.out; omega
        case c5 => have := (bth Hb.out hb3).size; simp; omega
        intro v' w5 hown5 hgrow
        have hb4 := (bth Hb.out hb3).alloc (bth Hb.out hb3).size (.cells (hc A) 29)
        have hb5 := hb4.grown hgrow hb4.size (fun q hq => by injection hq with hq; have := (bth Hb.out hb3).size; omega)
        go_wp2
        go_ret2
        refine ⟨⟨_, rfl, ?_⟩, hb5⟩
        rw [HPe.out]; exact hown5
theorem tproof_any (g b : Nat) (l : List (List UInt8)) (i n : Int) (w : World) (h : TilesAt w g b l) (hG : ShaG w) :
    Calls Tryd.prog 18 #[.pointer (some ⟨g, 0, none⟩), .int .i64 i, .int .i64 n] w fun e w' => (∃ u, e = .returned (.tuple #[u, .int .i64 (tproofE l i n)]) ∧ SlAt w' 32 u (hcs (tproofX l i n))) ∧ Below w.heap.size w w' := by
  unfold tproofE tproofX
  by_cases hn : tqIn l i n
  · rw [if_pos hn]
    obtain ⟨h1, h2, h3, h4⟩ := id hn
    obtain ⟨m, rfl⟩ : ∃ m : Nat, n = m := ⟨n.toNat, by omega⟩
    by_cases h0 : i = 0
    · subst h0
      rw [if_neg (fun h => h.2 rfl)]
      exact (tproof_zero g b l m w h (by omega)).mono fun _ _ ⟨a, b⟩ => ⟨⟨_, a, slNil _⟩, b⟩
    · rw [if_pos ⟨hn, h0⟩]
      obtain ⟨a, rfl⟩ : ∃ a : Nat, i = a := ⟨i.toNat, by omega⟩
      have h32 := h.r32
      exact (tproof_in g b l a m w h (by omega) (by omega) (by omega) hG).mono fun _ _ ⟨⟨u, he, hown⟩, hb⟩ => ⟨⟨u, he, SlAt.of_owns (size := 32) (hs := subL (l.take m) a true) hown (sub_32 m (l.take m) a true (by rw [List.length_take]; omega) (by omega) (by rw [List.length_take]; omega) (fun x hx => h32 x (List.mem_of_mem_take hx)))⟩, hb⟩
  · rw [if_neg hn, if_neg (fun h => hn h.1)]
    exact (tproof_out g b l i n w h hn).mono fun _ _ ⟨a, b⟩ => ⟨⟨_, a, slNil _⟩, b⟩
end Go.Proofs.YtbpjlancjdbehaaDoor
