import Derived.Test.YtjpnlnbpaecciaaCodec2
import Derived.Test.YtjpnlnbpaecciaaBuilder
set_option maxRecDepth 100000
namespace Go.Proofs.Ytjpnlnbpaecciaa
open Go.RowKit Go.Spec
def hashesL (hs : List (List UInt8)) : List UInt8 := if 64 < hs.length then [] else numL hs.length ++ hs.flatten
set_option maxHeartbeats 1000000 in
theorem hashes_any (v : Value) (hs : List (List UInt8)) (w : World) (hv : SlAt w 32 v (hcs hs)) (hn : hs.length ≤ 9223372036854775807) :
    Calls Try.prog 63 #[v] w fun e w' => e = .returned (sv (hashesL hs)) ∧ Below w.heap.size w w' := by
  obtain ⟨a, cap, rfl, hcap⟩ := hv.form
  rw [hcs_length] at *
  by_cases h64 : 64 < hs.length
  · have Hfin := hid (show hashesL hs = [] by rw [hashesL, if_pos h64])
    go_enter Try.func63, Try.ntmps63
    go_wp2
    go_ret
    exact ⟨by rw [Hfin.out]; rfl, Below.refl _ _⟩
  · have Hfin := hid (show hashesL hs = numL hs.length ++ hs.flatten by rw [hashesL, if_neg h64])
    have hnl := numL_len hs.length (by omega)
    have h64' : hs.length ≤ 64 := by omega
    have hd : decide (64 < (hs.length : Int)) = false := by simp; omega
    clear h64 hn
    go_enter Try.func63, Try.ntmps63
    go_wp2_with (first
      | (go_at_call 44; refine (num_any _ _ (by omega)).mono ?_; rintro e w1 ⟨rfl, hb1⟩; have HB := hid ((IsB.fresh 81 5 w).below hb1))
      | (go_at_call 43; refine (ws_any w.heap.size none [] (numL hs.length) _ HB.out (by simp; omega)).mono ?_; rintro e w2 ⟨rfl, hw2⟩))
    have hb2 : Below w.heap.size w w2 := (((Below.refl _ _).alloc (Nat.le_refl _) _).trans (hb1.mono (by simp))).trans (hw2.below HB.out)
    obtain ⟨r, hB, _⟩ := hw2.ex
    simp only [List.nil_append] at hB
    have HB2 := hid hB; clear hB hw2 HB hb1
    have Hv := hid hv; clear hv
    clear hnl
    go_loopw [16] (fun i wr => ∃ (k : Nat) (r : Option Nat), i = .int .i64 k ∧ k ≤ hs.length ∧ Bld w.heap.size r (numL hs.length ++ (hs.take k).flatten) wr ∧ Below w.heap.size w wr)
      (fun i _ => hs.length - (intOf i).toNat)
    case atStart => exact ⟨0, _, rfl, by omega, by simpa using HB2.out, hb2⟩
    case round =>
      obtain ⟨k, r', rfl, hk, hB, hb⟩ := hrel
      have HB3 := hid hB; clear hB
      by_cases hlt : k < hs.length
      · obtain ⟨b, o, rfl, hbl, hcl, hcell⟩ := (Hv.out.below hb (Nat.le_refl _)).at (i := k) (cs := hs[k].map bcell) (by simp [hcs, hlt])
        have htk := hid (show (hs.take (k + 1)).flatten = (hs.take k).flatten ++ hs[k] by rw [List.take_succ_eq_append_getElem hlt, List.flatten_append, List.flatten_singleton])
        have hfl := flatten_len (hs := hs.take k) (fun x hx => Hv.out.len32 x (List.mem_of_mem_take hx))
        generalize hs[k] = h at *
        have hcl' : h.length = 32 := by simpa using hcl
        have Hsz := hid (show (Try.prog.info? 34).map (·.size) = some h.length by rw [hcl']; exact Try.sizeHash)
        have Hcl := hid hcl'
        have Hlen := hid (show (numL hs.length ++ (hs.take k).flatten).length + h.length ≤ 140737488355328 by
          have := numL_len hs.length (by omega)
          rw [List.length_append, hfl, hcl', List.length_take]; omega)
        clear hfl
        have Hcell := hid hcell
        clear hcell hcl hcl'
        go_wp2_with (first
          | (refine wpList_load_hc rfl 34 _ rfl ⟨b, o + k * 32, none⟩ rfl h _ Hcell.out Try.underlying34 rfl Hsz.out ?_)
          | (refine wpList_store_new rfl 34 _ _ rfl rfl h rfl _ 34 (by rw [Hcl.out]; rfl) Hsz.out ?_)
          | (refine wpList_load_new rfl 34 _ rfl rfl h 34 _ Try.underlying34 rfl Hsz.out ?_)
          | (go_at_call 52; refine (hash_any h _ Hcl.out).mono ?_; rintro e w3 ⟨rfl, hb3⟩; have HB4 := hid ((HB3.out.below ((Below.refl _ _).alloc (Nat.le_refl _) _)).below hb3))
          | (go_at_call 43; refine (ws_any _ _ _ h _ HB4.out Hlen.out).mono ?_; rintro e w4 ⟨rfl, hw4⟩))
        go_roundw
        case rel =>
          obtain ⟨r2, hr2, _⟩ := hw4.ex
          refine ⟨k + 1, r2, by go_num, by omega, ?_, ?_⟩
          · rw [htk.out, ← List.append_assoc]; exact hr2
          · exact ((hb.trans (((Below.refl _ wr).alloc (Nat.le_refl _) _).mono hb.size)).trans (hb3.mono (by have := hb.size; simp; omega))).trans (hw4.below HB4.out)
        case measure => simp [intOf]; omega
      · have hke : k = hs.length := by omega
        subst hke
        have Hne := hid (show numL hs.length ++ (hs.take hs.length).flatten ≠ [] by have := numL_pos hs.length; intro h; rw [List.append_eq_nil_iff] at h; rw [h.1] at this; simp at this)
        go_wp2_with (go_at_call 47; refine (bstring_any _ _ _ _ HB3.out Hne.out).mono ?_; rintro e w4 ⟨rfl, hw4⟩)
        go_ret
        exact ⟨by rw [Hfin.out]; rfl, hb.trans (hw4.below hb.size (fun j hj => by have := HB3.out.row j hj; omega))⟩
def chunks (r : List UInt8) : Nat → List (List UInt8)
  | 0 => []
  | n + 1 => chunks r n ++ [(r.drop (n * 32)).take 32]
theorem chunks_length (r : List UInt8) : ∀ n, (chunks r n).length = n
  | 0 => rfl
  | n + 1 => by simp [chunks, chunks_length r n]
theorem chunks_32 (r : List UInt8) : ∀ n, n * 32 ≤ r.length → ∀ x ∈ chunks r n, x.length = 32
  | 0, _, x, hx => by simp [chunks] at hx
  | n + 1, h, x, hx => by
    simp only [chunks, List.mem_append, List.mem_singleton] at hx
    rcases hx with hx | rfl
    · exact chunks_32 r n (by omega) x hx
    · simp; omega
def unhashesL (l : List UInt8) : Option (List (List UInt8) × List UInt8) :=
  match rd 0 l with
  | none => none
  | some (n, r) => if 64 < n ∨ r.length < n * 32 then none else some (chunks r n, r.drop (n * 32))
theorem Try.infoHash : (Try.prog.info? 34).map (fun i => (i.zero, i.size, i.bytes)) = some (some (hv zero32), 32, 32) := by kernel_rfl
theorem Try.infoHash2 : (Try.prog.info? 34).map (fun i => (i.zero, i.size)) = some (some (hv zero32), 32) := by kernel_rfl
/-- what Unhashes answers -/
structure UH (l : List UInt8) (e : Ending) (w w' : World) : Prop where
  no : unhashesL l = none → e = .returned (.tuple #[.slice none 0 0, sv [], .bool false])
  yes : ∀ hs r, unhashesL l = some (hs, r) → ∃ v, e = .returned (.tuple #[v, sv r, .bool true]) ∧ w'.ownsRow w.heap.size 34 32 v hs.length (hflat hs)
  below : Below w.heap.size w w'
theorem UH.mk_no {l : List UInt8} {e : Ending} {w w' : World} (h : unhashesL l = none) (he : e = .returned (.tuple #[.slice none 0 0, sv [], .bool false])) (hb : Below w.heap.size w w') : UH l e w w' :=
  ⟨fun _ => he, fun hs r h' => (by rw [h] at h'; cases h'), hb⟩
theorem UH.mk_yes {l : List UInt8} {e : Ending} {w w' : World} {hs : List (List UInt8)} {r : List UInt8} (h : unhashesL l = some (hs, r)) (v : Value) (he : e = .returned (.tuple #[v, sv r, .bool true]))
    (hown : w'.ownsRow w.heap.size 34 32 v hs.length (hflat hs)) (hb : Below w.heap.size w w') : UH l e w w' :=
  ⟨fun h' => (by rw [h] at h'; cases h'), fun hs' r' h' => (by rw [h] at h'; injection h' with h'; injection h' with h1 h2; subst h1; subst h2; exact ⟨v, he, hown⟩), hb⟩
set_option maxRecDepth 100000 in
set_option maxHeartbeats 1000000 in
theorem unhashes_any (l : List UInt8) (w : World) (hn : l.length ≤ 9223372036854775807) :
    Calls Try.prog 92 #[sv l] w fun e w' => UH l e w w' := by
  obtain ⟨i0, hi, hz0, hz1, hz2⟩ := info_parts Try.infoHash
  cases hr : rd 0 l with
  | none =>
    have Hfin := hid (show unhashesL l = none by rw [unhashesL, hr])
    go_enter Try.func92, Try.ntmps92
    go_wp2_with (go_at_call 76; refine (read_no l _ hn hr).mono ?_; rintro e w1 ⟨rfl, hb⟩)
    go_ret3
    exact UH.mk_no Hfin.out rfl hb
  | some x =>
    obtain ⟨n, r⟩ := x
    obtain ⟨hn64, hrl⟩ := rd_some l 0 n r (by omega) hr
    have Hn64 := hid hn64; clear hn64
    by_cases h64 : 64 < n
    · have Hfin := hid (show unhashesL l = none by rw [unhashesL, hr]; simp [h64])
      have Hr := hid hr; clear hr
      go_enter Try.func92, Try.ntmps92
      go_wp2_with (go_at_call 76; refine (read_yes l _ hn Hr.out).mono ?_; rintro e w1 ⟨rfl, hb⟩)
      go_ret3
      exact UH.mk_no Hfin.out rfl hb
    · have h64' : n ≤ 64 := by omega
      clear h64
      have Hr := hid hr; clear hr
      go_enter Try.func92, Try.ntmps92
      go_wp2_with (go_at_call 76; refine (read_yes l _ hn Hr.out).mono ?_; rintro e w1 ⟨rfl, hb⟩)
      go_loopw [2, 3, 5] (fun v s m wr => ∃ (k : Nat), k ≤ n ∧ m = .int .u64 ((n - k : Nat) : Int) ∧ s = sv (r.drop (k * 32)) ∧ k * 32 ≤ r.length ∧ wr.ownsRow w.heap.size 34 32 v k (hflat (chunks r k)) ∧ Below w.heap.size w wr)
        (fun _ _ m _ => (intOf m).toNat)
      case atStart => exact ⟨0, by omega, by simp, by simp, by omega, World.ownsRow_nil _ _ _ _, hb⟩
      case round =>
        obtain ⟨k, hk, rfl, rfl, hk32, hown, hb2⟩ := hrel
        by_cases hlt : k < n
        · obtain ⟨d, hd⟩ : ∃ d, n - k = d + 1 := ⟨n - k - 1, by omega⟩
          rw [hd]
          by_cases hs : r.length < k * 32 + 32
          · have Hs := hid (show (r.drop (k * 32)).length < 32 by simp; omega)
            have Hfin := hid (show unhashesL l = none by rw [unhashesL, Hr.out]; simp; omega)
            clear hs
            go_wp2_with (first
              | (go_at_call 77; refine (unhash_no _ _ Hs.out).mono ?_; rintro e w3 ⟨rfl, hb3⟩)
              | (refine wpList_store_new rfl 34 _ _ rfl rfl zero32 rfl _ 34 rfl Try.sizeHash ?_))
            go_ret3
            exact UH.mk_no Hfin.out rfl (((hb2.trans (hb3.mono hb2.size)).alloc (by have := hb2.size; have := hb3.size; omega) _))
          · have Hs := hid (show 32 ≤ (r.drop (k * 32)).length by simp; omega)
            have Hs2 := hid (show (r.drop (k * 32)).length ≤ 9223372036854775807 by simp; omega)
            have Hch := hid (show chunks r (k + 1) = chunks r k ++ [(r.drop (k * 32)).take 32] from rfl)
            have Hdr := hid (show (r.drop (k * 32)).drop 32 = r.drop ((k + 1) * 32) by rw [List.drop_drop]; congr 1; omega)
            have hL : ((r.drop (k * 32)).take 32).length = 32 := by simp; omega
            generalize hLL : (r.drop (k * 32)).take 32 = L at *
            have HLL := hid hLL
            have HL := hid hL
            have Hsz := hid (show (Try.prog.info? 34).map (·.size) = some L.length by rw [hL]; exact Try.sizeHash)
            clear hL hLL
            go_wp2_with (first
              | (go_at_call 77; refine (unhash_yes _ _ Hs.out Hs2.out).mono ?_; rw [HLL.out, Hdr.out]; rintro e w3 ⟨rfl, hb3⟩)
              | (refine wpList_store_new rfl 34 _ _ rfl rfl L rfl _ 34 (by rw [HL.out]; rfl) Hsz.out ?_)
              | (refine wpList_load_new rfl 34 _ rfl rfl L 34 _ Try.underlying34 rfl Hsz.out ?_)
              | (refine wpList_buildSlice_one rfl 37 34 _ rfl 32 (hv zero32) (hv L) (hc L) rfl Try.underlying37 Try.infoHash2 rfl (by rw [hc_size, HL.out]) (by decide) (by decide) ?_)
              | (at_builtin; go_must (refine wpList_app rfl _ _ 37 rfl w.heap.size 34 i0 (hv zero32) 32 32 Try.underlying37 hi hz0 hz1 hz2 rfl (by decide) _ k (hflat (chunks r k)) rfl ?c1 ⟨(w3.alloc (.cells (hc L) 34)).heap.size, 0, none⟩ 1 1 (L.map bcell) rfl ?c2 ?c3 ?c4 ?c5 ?c6 ?c7 ?_)))
            case c1 => exact ((ownsRow_fr hown (Fr.of_below hb3 (fun _ => False)) (fun _ _ h => h)).alloc _).alloc _
            case c2 => simp [HL.out]
            case c3 =>
              intro j u hj
              exact row_alloc (w := w3.alloc (.cells (hc L) 34)) (cs := hc L) (t := 34) (fr := (0, 0)) j u (by rw [hc_toList]; exact hj)

            case c4 => exact bcell_one L
            case c5 => unfold maxLen; omega
            case c6 => omega
            case c7 => have := hb2.size; have := hb3.size; simp; omega
            intro v' w5 hown' hgrow hat
            go_wp2
            go_roundw
            case rel =>
              refine ⟨k + 1, by omega, ?_, by rfl, by omega, ?_, ?_⟩
              · rw [show n - (k + 1) = d by omega]
              · rw [Hch.out, hflat_snoc]; exact hown'
              · have hb4 : Below w.heap.size w w3 := hb2.trans (hb3.mono hb2.size)
                have hs4 := hb4.size
                refine (((hb4.alloc hs4 _).alloc (by simp; omega) _).grown hgrow (by simp; omega) ?_)
                intro q hq
                exact (hown.lt q hq).1
            case measure => simp [intOf]
        · have hke : k = n := by omega
          subst hke
          have Hfin := hid (show unhashesL l = some (chunks r k, r.drop (k * 32)) by rw [unhashesL, Hr.out]; simp; omega)
          simp only [Nat.sub_self]
          go_wp2
          go_ret3
          exact UH.mk_yes Hfin.out _ rfl (by rw [chunks_length]; exact hown) hb2
end Go.Proofs.Ytjpnlnbpaecciaa
