/- slices.Clone of hashes -/
import Derived.Test.YtjpnlnbpaecciaaQSg
import Derived.Lib.LazyBuf
set_option maxRecDepth 100000
namespace Go.Spec
open Go.RowKit
theorem flatten_lenG {size : Nat} : ∀ {css : List (List Value)}, (∀ x ∈ css, x.length = size) → css.flatten.length = css.length * size
  | [], _ => by simp
  | x :: xs, h => by
    have hx : x.length = size := h x List.mem_cons_self
    rw [List.flatten_cons, List.length_append, flatten_lenG (fun y hy => h y (List.mem_cons_of_mem _ hy)), List.length_cons, Nat.add_mul, Nat.one_mul, hx]; omega
theorem SlAt.sizes {w : World} {size : Nat} {v : Value} {css : List (List Value)} (h : SlAt w size v css) : ∀ x ∈ css, x.length = size := by
  obtain ⟨a, cap, hv, hc, hs, _⟩ := h
  exact hs
theorem SlAt.flat {w : World} {size n cap : Nat} {ad : Addr} {css : List (List Value)} (h : SlAt w size (.slice (some ad) n cap) css) : ∀ j u, css.flatten[j]? = some u → w.cell? (ad.add j) = some u := by
  intro j u hj
  have hs := h.sizes
  have hlt : j < css.length * size := by
    have := (List.getElem?_eq_some_iff.1 hj).1
    rwa [flatten_lenG hs] at this
  have h0 : 0 < size := by
    rcases Nat.eq_zero_or_pos size with h | h
    · rw [h, Nat.mul_zero] at hlt; omega
    · exact h
  have hi : j / size < css.length := (Nat.div_lt_iff_lt_mul h0).2 hlt
  have hr : j % size < size := Nat.mod_lt _ h0
  have hje : j / size * size + j % size = j := by rw [Nat.mul_comm]; exact Nat.div_add_mod j size
  have hg := flat_getG size css hs (j / size) hi (j % size) hr
  rw [hje, hj] at hg
  obtain ⟨b, o, ha, hb, _, hc⟩ := h.at (i := j / size) (cs := css[j / size]) (List.getElem?_eq_getElem hi)
  injection ha with ha
  subst ha
  have := hc (j % size) u hg.symm
  rw [Addr.add_lit] at this ⊢
  rw [show o + j = o + j / size * size + j % size by rw [← hje]; simp only [hje]; omega]
  exact this
/-- a row of signed heads does not lie where a signed head's path lies -/
def Apart (o : Value) (d : Sg) : Prop := ∀ ad, d.a = some ad → d.path ≠ [] → o.ownBlock ≠ some ad.block
theorem Sg.In.lt {w : World} {d : Sg} (h : d.In w) {ad : Addr} (ha : d.a = some ad) (hp : d.path ≠ []) : ad.block < w.heap.size := by
  have hs := h.at_
  unfold Sg.p at hs
  rw [ha] at hs
  have hl : 0 < d.path.length := List.length_pos_iff.2 hp
  obtain ⟨b, o, ha', hb, _⟩ := hs.at (i := 0) (cs := (d.path[0]).map bcell) (by simp [hcs, hl])
  injection ha' with ha'
  subst ha'
  exact hb
theorem Sg.In.grown {w w' : World} {d : Sg} {row : Option Nat} (h : d.In w) (hg : w.grownBy w' row) (hap : ∀ ad, d.a = some ad → d.path ≠ [] → row ≠ some ad.block) : d.In w' := by
  refine ⟨h.r32, ?_, h.sl, h.pl⟩
  have hlt := @Sg.In.lt w d h
  obtain ⟨a, cap, hv, hc, hs, hr⟩ := h.at_
  refine ⟨a, cap, hv, hc, hs, fun i cs hi => ?_⟩
  obtain ⟨b, o, ha, hb, hcell⟩ := hr i cs hi
  have hp : d.path ≠ [] := by
    intro hp
    rw [hp] at hi
    simp [hcs] at hi
  have hda : d.a = some ⟨b, o, none⟩ := by
    have : d.p = .slice (some ⟨b, o, none⟩) (hcs d.path).length cap := by rw [hv, ha]
    unfold Sg.p at this
    injection this
  have hne := hap _ hda hp
  refine ⟨b, o, ha, Nat.lt_of_lt_of_le hb hg.size, fun j u hj => ?_⟩
  have hblk := hg.block b hb (fun h => hne h.symm)
  rw [← hcell j u hj]
  unfold World.cell?
  rw [hblk]
theorem sgs_grow {w w' : World} {o v' : Value} {ds : List Sg} {d : Sg} {ob : Obj} (hok : ∀ x ∈ ds, x.In w ∧ Apart o x) (hd : d.In w ∧ Apart o d) (hg : (w.alloc ob).grownBy w' o.ownBlock)
    (hat : ∀ k, v'.ownBlock = some k → o.ownBlock = some k ∨ k = (w.alloc ob).heap.size) : ∀ x ∈ ds ++ [d], x.In w' ∧ Apart v' x := by
  have h1 : ∀ x, x.In w ∧ Apart o x → x.In w' ∧ Apart v' x := by
    rintro x ⟨hx, ha⟩
    refine ⟨(hx.below ((Below.refl _ _).alloc (Nat.le_refl _) ob)).grown hg ha, fun ad had hp hk => ?_⟩
    rcases hat _ hk with h | h
    · exact ha ad had hp h
    · have := hx.lt had hp
      simp at h
      omega
  intro x hx
  rw [List.mem_append, List.mem_singleton] at hx
  rcases hx with hx | rfl
  · exact h1 x (hok x hx)
  · exact h1 x hd
theorem hcs_flat (hs : List (List UInt8)) : (hcs hs).flatten = hflat hs := by
  unfold hcs hflat
  rw [List.map_flatten]
end Go.Spec
namespace Go.Proofs.Ytjpnlnbpaecciaa
open Go.RowKit Go.Spec
set_option maxHeartbeats 4000000 in
theorem clone_any (a : Option Addr) (cap : Nat) (hs : List (List UInt8)) (w : World) (hv : SlAt w 32 (.slice a hs.length cap) (hcs hs)) (hn : hs.length ≤ 1000000) :
    Calls Try.prog 56 #[.slice a hs.length cap] w fun e w' => (∃ a' cap', e = .returned (.slice a' hs.length cap') ∧ w'.ownsRow w.heap.size 34 32 (.slice a' hs.length cap') hs.length (hflat hs)) ∧ Below w.heap.size w w' := by
  obtain ⟨i0, hi, hz0, hz1, hz2⟩ := info_parts Try.infoHash
  cases a with
  | none =>
    have h0 : hs = [] := by
      cases hs with
      | nil => rfl
      | cons x xs =>
        obtain ⟨b, o, ha, _⟩ := hv.at (i := 0) (cs := x.map bcell) (by simp [hcs])
        cases ha
    subst h0
    have hq : (binOp .eql 37 (.slice none ([] : List (List UInt8)).length cap) (.slice none 0 0)).run Try.prog w = .ok (.bool true) w := run_eql_slice_nil w 37 34 none _ cap Try.underlying37
    simp only [List.length_nil] at hq ⊢
    go_enter Try.func56, Try.ntmps56
    go_wp2
    go_ret
    exact ⟨⟨_, _, rfl, World.ownsRow_nil _ _ _ _⟩, Below.refl _ _⟩
  | some ad =>
    have Hl32 := hid hv.len32
    have Hf := hid hv.flat
    have HLEN := hid (show (hflat hs).length = hs.length * 32 by unfold hflat; rw [List.length_map, flatten_len hv.len32])
    have hf2 := (hv.below ((Below.refl _ w).alloc (Nat.le_refl _) (.cells #[] 34)) (Nat.le_refl _)).flat
    rw [hcs_flat] at hf2
    have Hf2 := hid hf2
    clear hv hf2
    have hq : (binOp .eql 37 (.slice (some ad) hs.length cap) (.slice none 0 0)).run Try.prog w = .ok (.bool false) w := run_eql_slice_nil w 37 34 (some ad) hs.length cap Try.underlying37
    have HO := hid (show (w.alloc (.cells #[] 34)).ownsRow w.heap.size 34 32 (.slice (some ⟨w.heap.size, 0, none⟩) 0 0) 0 [] from
      ⟨rfl, .inr ⟨w.heap.size, 0, #[], rfl, Nat.le_refl _, heap_alloc_new w _, Nat.le_refl _, Nat.zero_le _, rfl, rfl⟩⟩)
    go_enter Try.func56, Try.ntmps56
    go_wp2_with (at_builtin; go_must (refine wpList_app rfl _ _ 37 rfl w.heap.size 34 i0 (hv zero32) 32 32 Try.underlying37 hi hz0 hz1 hz2 rfl (by decide) _ 0 [] rfl ?c1 ad hs.length cap (hflat hs) rfl ?c2 ?c3 ?c4 ?c5 ?c6 ?c7 ?_))
    case c1 => exact HO.out
    case c2 => exact HLEN.out
    case c3 => exact Hf2.out
    case c4 => unfold hflat; exact bcell_one _
    case c5 => unfold maxLen; omega
    case c6 => omega
    case c7 => simp
    intro v' w5 hown' hgrow hat
    replace hown' : w5.ownsRow w.heap.size 34 32 v' hs.length (hflat hs) := by simpa using hown'
    obtain ⟨a', cap', rfl, _⟩ := ownsRow_form hown'
    have HX := hid hown'
    have HB := hid (((Below.refl _ w).alloc (Nat.le_refl _) (.cells #[] 34)).grown hgrow (by simp) (fun q hq => by simp [Value.ownBlock] at hq; omega))
    clear hown' hgrow hat
    go_wp2
    go_ret
    exact ⟨⟨_, _, rfl, HX.out⟩, HB.out⟩
end Go.Proofs.Ytjpnlnbpaecciaa
