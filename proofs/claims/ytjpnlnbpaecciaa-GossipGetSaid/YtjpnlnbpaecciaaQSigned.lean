/- the law's Signed: rough heads made -/
import Derived.Test.YtjpnlnbpaecciaaQRough

set_option maxRecDepth 100000
namespace Go.Spec
open Go.RowKit
/-- a rough head -/
structure Rg where
  z : Int
  root : List UInt8
  i : Int
  sig : List UInt8
  m : Int
  path : List (List UInt8)
  a : Option Addr
  cap : Nat
def Rg.L (d : Rg) : List Value := (rgA d.z d.root d.i d.sig d.m (.slice d.a d.path.length d.cap)).toList
structure Rg.In (w : World) (d : Rg) : Prop where
  r32 : d.root.length = 32
  at_ : SlAt w 32 (.slice d.a d.path.length d.cap) (hcs d.path)
  m1 : -128 ≤ d.m
  m2 : d.m ≤ 127
structure RgsAt (w : World) (v : Value) (rs : List Rg) : Prop where
  at_ : SlAt w 37 v (rs.map Rg.L)
  ok : ∀ d ∈ rs, d.In w
theorem Rg.In.below {w w' : World} {d : Rg} (h : d.In w) (hb : Below w.heap.size w w') : d.In w' := ⟨h.r32, h.at_.below hb (Nat.le_refl _), h.m1, h.m2⟩
theorem RgsAt.below {w w' : World} {v : Value} {ds : List Rg} (h : RgsAt w v ds) (hb : Below w.heap.size w w') : RgsAt w' v ds := ⟨h.at_.below hb (Nat.le_refl _), fun d hd => (h.ok d hd).below hb⟩
theorem RgsAt.form {w : World} {v : Value} {ds : List Rg} (h : RgsAt w v ds) : ∃ a cap, v = .slice a ds.length cap ∧ ds.length ≤ cap := by
  have := h.at_.form
  rwa [List.length_map] at this
theorem RgsAt.get {w : World} {a : Option Addr} {n cap : Nat} {ds : List Rg} (h : RgsAt w (.slice a n cap) ds) {i : Nat} (hi : i < ds.length) :
    ∃ b o, a = some ⟨b, o, none⟩ ∧ b < w.heap.size ∧ (∀ j u, (rgA ds[i].z ds[i].root ds[i].i ds[i].sig ds[i].m (.slice ds[i].a ds[i].path.length ds[i].cap)).toList[j]? = some u → w.cell? ((⟨b, o + i * 37, none⟩ : Addr).add j) = some u) := by
  obtain ⟨b, o, ha, hb, _, hc⟩ := h.at_.at (i := i) (cs := ds[i].L) (by simp [hi])
  exact ⟨b, o, ha, hb, hc⟩
/-- a signed head made of a rough one -/
structure Made (r : Rg) (d : Sg) : Prop where
  z : d.z = r.z
  root : d.root = r.root
  i : d.i = r.i
  path : d.path = r.path
  sig : Go.Proofs.Ytjpnlnbpaecciaa.RoughSig r.sig r.m d.sig
/-- what Signed makes: none is more than is gone through -/
structure SignedL (w : World) (rs : List Rg) (most : Nat) (v : Value) (ds : List Sg) : Prop where
  at_ : SgsAt w v ds
  len : ds.length = rs.length
  le : ds.length ≤ most
  small : ∀ d ∈ ds, d.sig.length ≤ 16511 ∧ d.path.length ≤ 40
end Go.Spec
namespace Go.Proofs.Ytjpnlnbpaecciaa
open Go.RowKit Go.Spec
theorem Try.infoSigned : (Try.prog.info? 41).map (fun i => (i.zero, i.size, i.bytes)) = some (some (.agg (sgA 0 zero32 0 [] (.slice none 0 0))), 36, 88) := by kernel_rfl
theorem Try.infoSigned2 : (Try.prog.info? 41).map (fun i => (i.zero, i.size)) = some (some (.agg (sgA 0 zero32 0 [] (.slice none 0 0))), 36) := by kernel_rfl
def rgGreat (r : Rg) : Bool := greatB r.sig r.path.length
def signedOk (rs : List Rg) (most : Nat) : Bool := decide (rs.length ≤ most) && rs.all (fun r => !rgGreat r)
/-- what Signed answers -/
structure SA (rs : List Rg) (most : Nat) (e : Ending) (w w' : World) : Prop where
  no : signedOk rs most = false → e = .returned (.tuple #[.slice none 0 0, .bool false])
  yes : signedOk rs most = true → ∃ v ds, e = .returned (.tuple #[v, .bool true]) ∧ SignedL w' rs most v ds
  below : Below w.heap.size w w'
set_option maxHeartbeats 4000000 in
theorem signed_any (v : Value) (rs : List Rg) (most : Nat) (w : World) (hv : RgsAt w v rs) (hn : rs.length ≤ 9223372036854775807) (hmost : most ≤ 100) :
    Calls Try.prog 12 #[v, .int .i64 most] w fun e w' => SA rs most e w w' := by
  obtain ⟨i0, hi, hz0, hz1, hz2⟩ := info_parts Try.infoSigned
  obtain ⟨a, cap, rfl, hcap⟩ := hv.form
  by_cases hm : most < rs.length
  · have hd : decide (most < rs.length) = true := decide_eq_true (by omega)
    have Hf := hid (show signedOk rs most = false by simp [signedOk]; omega)
    go_enter Try.func12, Try.ntmps12
    go_wp2
    go_ret2
    exact ⟨fun _ => rfl, fun h => (by rw [Hf.out] at h; cases h), Below.refl _ _⟩
  have hd : decide (most < rs.length) = false := decide_eq_false (by omega)
  have hle : rs.length ≤ most := by omega
  have Hfin := hid (show signedOk rs most = rs.all (fun r => !rgGreat r) by simp [signedOk, hle])
  have hn' : rs.length ≤ 100 := by omega
  have Hle := hid hle
  have Hv := hid hv
  clear hm hn hv hle
  go_enter Try.func12, Try.ntmps12
  go_upto_region 5 with fail
  go_loopw [6, 7] (fun o i wr => ∃ (k : Nat) (ds : List Sg), i = .int .i64 k ∧ k ≤ rs.length ∧ (rs.take k).all (fun r => !rgGreat r) = true ∧ ds.length = k ∧ wr.ownsRow w.heap.size 41 36 o k (sgF ds) ∧ (∀ d ∈ ds, d.In w ∧ d.sig.length ≤ 16511 ∧ d.path.length ≤ 40) ∧ Below w.heap.size w wr)
    (fun _ i _ => rs.length - (intOf i).toNat)
  case atStart => exact ⟨0, [], rfl, by omega, by simp, rfl, World.ownsRow_nil _ _ _ _, fun _ h => by simp at h, Below.refl _ _⟩
  case round =>
    obtain ⟨k, ds, rfl, hk, hva, hdl, hown, hok, hb⟩ := hrel
    have Hva := hid hva; clear hva
    have Hok := hid hok; clear hok
    have Hdl := hid hdl; clear hdl
    by_cases hlt : k < rs.length
    · have hdk := Hv.out.ok rs[k] (List.getElem_mem hlt)
      obtain ⟨b, o, rfl, hbl, hcell⟩ := (Hv.out.below hb).get hlt
      have Htk := hid (show rs.take (k + 1) = rs.take k ++ [rs[k]] from List.take_succ_eq_append_getElem hlt)
      have Hall := hid (show rgGreat rs[k] = true → rs.all (fun r => !rgGreat r) = false from fun h => by
        rw [Bool.eq_false_iff]
        intro h'
        have := List.all_eq_true.1 h' rs[k] (List.getElem_mem hlt)
        rw [h] at this; cases this)
      generalize hd : rs[k] = d at *
      clear hd
      obtain ⟨z, root, i, sig, m, path, pa, pcap⟩ := d
      have hr := hdk.r32
      have Hp := hid hdk.at_
      have Hm := hid (And.intro hdk.m1 hdk.m2)
      simp only at hr hcell
      have Hsz := hid (show (Try.prog.info? 75).map (·.size) = some (rgA z root i sig m (.slice pa path.length pcap)).size by rw [rgA_size hr]; exact Try.sizeRough)
      have Hc := hid hcell; clear hcell hdk
      have hk64 : (k : Int) < (rs.length : Int) := by omega
      have HG := hid (fun w0 => great_any z i m root sig pa path.length pcap w0 hr)
      cases hg : greatB sig path.length with
      | true =>
        rw [hg] at HG
        have Hvd := hid (show rgGreat ⟨z, root, i, sig, m, path, pa, pcap⟩ = true from hg)
        go_wp2_with (first
          | ((with_reducible show wpList _ _ _ ({ dst := _, op := Op.load 75 _, type := _, pos := _, after := _, guard := _ } :: _) _ _); refine wpList_load_cs rfl 75 _ rfl ⟨b, o + k * 37, none⟩ rfl _ _ Hc.out Try.underlying75 rfl Hsz.out ?_)
          | (go_at_call 40; refine (HG.out _).mono ?_; rintro e w4 ⟨rfl, hb4⟩))
        go_ret2
        exact ⟨fun _ => rfl, fun h => (by rw [Hfin.out, Hall.out Hvd.out] at h; cases h), hb.trans (hb4.mono hb.size)⟩
      | false =>
        rw [hg] at HG
        have Hvd := hid (show rgGreat ⟨z, root, i, sig, m, path, pa, pcap⟩ = false from hg)
        obtain ⟨hs1, hs2⟩ : sig.length ≤ 300 ∧ path.length ≤ 40 := by simpa [greatB] using hg
        have HR := hid (fun w0 => rsigned_any z i m root sig pa path.length pcap w0 hr hs1 Hm.out.1 Hm.out.2)
        have Hs2 := hid hs2
        go_wp2_with (first
          | ((with_reducible show wpList _ _ _ ({ dst := _, op := Op.load 75 _, type := _, pos := _, after := _, guard := _ } :: _) _ _); refine wpList_load_cs rfl 75 _ rfl ⟨b, o + k * 37, none⟩ rfl _ _ Hc.out Try.underlying75 rfl Hsz.out ?_)
          | (go_at_call 40; refine (HG.out _).mono ?_; rintro e w4 ⟨rfl, hb4⟩; have Hc4 := hid (fun j u h => (lat_cells (⟨w4, hb4⟩ : Later wr) hbl Hc.out j u h)))
          | ((with_reducible show wpList _ _ _ ({ dst := _, op := Op.load 75 _, type := _, pos := _, after := _, guard := _ } :: _) _ _); refine wpList_load_cs rfl 75 _ rfl ⟨b, o + k * 37, none⟩ rfl _ _ Hc4.out Try.underlying75 rfl Hsz.out ?_)
          | (go_at_call 41; refine (HR.out _).mono ?_; rintro e w5 ⟨⟨s, rfl, hs⟩, hb5⟩; have Hs := hid hs; clear hs)
          | (refine wpList_buildSlice_one rfl 24 41 _ rfl 36 (.agg (sgA 0 zero32 0 [] (.slice none 0 0))) (.agg (sgA z root i s (.slice pa path.length pcap))) (sgA z root i s (.slice pa path.length pcap)) rfl Try.underlying24 Try.infoSigned2 rfl (sgA_size hr) (by decide) (by decide) ?_)
          | (at_builtin; go_must (refine wpList_app rfl _ _ 24 rfl w.heap.size 41 i0 (.agg (sgA 0 zero32 0 [] (.slice none 0 0))) 36 88 Try.underlying24 hi hz0 hz1 hz2 rfl (by decide) _ k (sgF ds) rfl ?c1 ⟨w5.heap.size, 0, none⟩ 1 1 (sgA z root i s (.slice pa path.length pcap)).toList rfl ?c2 ?c3 ?c4 ?c5 ?c6 ?c7 ?_)))
        case c1 => exact ((ownsRow_fr hown (Fr.of_below hb4 (fun _ => False)) (fun _ _ h => h)) |> fun h => (ownsRow_fr h (Fr.of_below hb5 (fun _ => False)) (fun _ _ h => h)).alloc _)
        case c2 => rw [Array.length_toList, sgA_size hr]
        case c3 => exact fun j u hj => row_alloc (w := w5) j u hj
        case c4 => exact sgA_one rfl
        case c5 => unfold maxLen; omega
        case c6 => omega
        case c7 => have := hb.size; have := hb4.size; have := hb5.size; simp; omega
        intro v' w6 hown' hgrow hat
        have HB5 : Below w.heap.size w w5 := bth (bth hb hb4) hb5
        have HB6 : Below w.heap.size w w6 := (HB5.alloc HB5.size _).grown hgrow (by have := HB5.size; simp; omega) (fun q hq => (hown.lt q hq).1)
        have hbls : s.length ≤ 16511 := by
          have h1 := Hs.out.some_; have h2 := Hs.out.none_
          have h3 := Hm.out
          rcases Nat.eq_zero_or_pos sig.length with h | h
          · rw [h2 h]; simp
          · have := h1 h; omega
        have Hown := hid hown'; clear hown' hown hgrow hat
        go_wp2
        go_roundw
        case rel =>
          refine ⟨k + 1, ds ++ [⟨z, root, i, s, path, pa, pcap⟩], by go_num, by omega, ?_, by rw [List.length_append, Hdl.out]; rfl, ?_, ?_, HB6⟩
          · rw [Htk.out, List.all_append, Hva.out]; simp [Hvd.out]
          · rw [sgF_snoc]; exact Hown.out
          · intro d hd
            rw [List.mem_append, List.mem_singleton] at hd
            rcases hd with hd | rfl
            · exact Hok.out d hd
            · exact ⟨⟨hr, Hp.out, by simp only; omega, by simp only; have := Hs2.out; omega⟩, hbls, Hs2.out⟩
        case measure => simp [intOf]; omega
    · have hke : k = rs.length := by omega
      subst hke
      have hdl := Hdl.out
      rw [← hdl] at hown
      have HX := hid (SgsAt.of_owns hown (fun d hd => ((Hok.out d hd).1).below hb))
      have Hdl2 := hid hdl
      clear hdl hown
      go_wp2
      go_ret2
      refine ⟨fun h => ?_, fun _ => ⟨_, _, rfl, ⟨HX.out, Hdl2.out, by rw [Hdl2.out]; exact Hle.out, fun d hd => (Hok.out d hd).2⟩⟩, hb⟩
      have hva := Hva.out
      rw [List.take_length] at hva
      rw [Hfin.out, hva] at h; cases h
end Go.Proofs.Ytjpnlnbpaecciaa
