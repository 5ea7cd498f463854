/- script: what the listed variables give the walks; the library's calls in one form -/
import Derived.Test.YtdefipnmjfnpeaaDoorQScrUnhex
import Derived.Test.YtdefipnmjfnpeaaDoorQStrs
import Derived.Lib.LaidTab
import Derived.Stop.LaidErr
import Derived.Lib.AppendIntMem
set_option maxRecDepth 100000
namespace Go.Proofs.YtdefipnmjfnpeaaDoor
open Go.RowKit Go.Spec
structure ScrG (w : World) : Prop where
  lt : 0 < w.heap.size
  word : ∀ k : Nat, k < 14 → w.cell? ⟨0, 3 * k, none⟩ = some (sv (wordT k))
  nums : ∀ k : Nat, k < 14 → w.cell? ⟨0, 3 * k + 1, none⟩ = some (.int .i64 (numsT k : Nat))
  text : ∀ k : Nat, k < 14 → w.cell? ⟨0, 3 * k + 2, none⟩ = some (.bool (textT k))
  pow : Lib.TabIs Tryd.prog w "internal/strconv.uint64pow10" .u64 Lib.pow10Tab
  max : ∃ m, w.cell? ⟨1, 0, none⟩ = some (.int .i64 m)
  syn : ∃ tp p, w.var? Tryd.prog "strconv.ErrSyntax" = some #[.iface tp p]
  rng : ∃ tp p, w.var? Tryd.prog "strconv.ErrRange" = some #[.iface tp p]
theorem var_later {w w' : World} {name : String} {cs : Array Value} (h : w.var? Tryd.prog name = some cs) (hb : Below w.heap.size w w') : w'.var? Tryd.prog name = some cs := by
  unfold World.var? at *
  cases hg : Tryd.prog.globalNamed name with
  | none => rw [hg] at h; cases h
  | some g =>
    rw [hg] at h
    simp only [Option.bind_some] at h ⊢
    have hlt : g < w.heap.size := by
      cases hh : w.heap[g]? with
      | none => rw [hh] at h; cases h
      | some o => exact (Array.getElem?_eq_some_iff.1 hh).1
    rw [hb.block g hlt]; exact h
theorem ScrG.later {w w' : World} (h : ScrG w) (hb : Below w.heap.size w w') : ScrG w' := by
  have hc : ∀ b o v, w.cell? ⟨b, o, none⟩ = some v → w'.cell? ⟨b, o, none⟩ = some v := fun b o v hv => (hb.cell (p := ⟨b, o, none⟩) (World.block_lt_of_cell? _ _ hv)).trans hv
  obtain ⟨m, hm⟩ := h.max
  obtain ⟨t1, p1, h1⟩ := h.syn
  obtain ⟨t2, p2, h2⟩ := h.rng
  exact ⟨Nat.lt_of_lt_of_le h.lt hb.size, fun k hk => hc _ _ _ (h.word k hk), fun k hk => hc _ _ _ (h.nums k hk), fun k hk => hc _ _ _ (h.text k hk), var_later h.pow hb, ⟨m, hc _ _ _ hm⟩, ⟨t1, p1, var_later h1 hb⟩, ⟨t2, p2, var_later h2 hb⟩⟩
theorem itoa_any (n : Int) (h0 : -9223372036854775808 ≤ n) (h1 : n ≤ 9223372036854775807) (w : World) (hG : ScrG w) :
    Calls Tryd.prog 21 #[.int .i64 n] w fun e w' => e = .returned (sv (Lib.itoa n)) ∧ Below w.heap.size w w' := by
  refine (Tryd.strconv_Itoa n h0 h1 w hG.pow).mono ?_
  rintro e w' ⟨rfl, k, os, rfl⟩
  exact ⟨rfl, Lib.below_grow _ _ (Nat.le_refl _) _ _⟩
/-- the number that Atoi gives, whatever stands there -/
def atoiV (l : List UInt8) : Int := match Lib.atoiAll l with
  | .ok v => v
  | .syntax => 0
  | .range => Lib.atoiSat l
theorem atoi_any (l : List UInt8) (hl : l.length ≤ 1000000000) (w : World) (hG : ScrG w) :
    Calls Tryd.prog 31 #[sv l] w fun e w' => ∃ x, e = .returned (.tuple #[.int .i64 (atoiV l), x]) ∧ Below w.heap.size w w' := by
  have hs : (mkS l).size ≤ 1000000000 := by rw [mkS_size]; exact hl
  have hd : (mkS l).data.toList = l := by simp [mkS]
  unfold atoiV
  cases h : Lib.atoiAll l with
  | ok v =>
    refine (Tryd.strconv_Atoi_ok (mkS l) (by omega) v (by rw [hd]; exact h) w).mono ?_
    rintro e w' ⟨rfl, hw⟩
    refine ⟨_, rfl, ?_⟩
    rcases hw with rfl | ⟨t, rfl⟩
    · exact Below.refl _ _
    · exact Lib.bytesWorld_below w _ t
  | «syntax» =>
    obtain ⟨tp, p, hv⟩ := hG.syn
    refine (Tryd.strconv_Atoi_syntax_var (mkS l) (by omega) (by rw [hd]; exact h) tp p w hv).mono ?_
    rintro e w' ⟨N, rfl, _, _, hb⟩
    exact ⟨_, rfl, hb⟩
  | range =>
    obtain ⟨tp, p, hv⟩ := hG.rng
    refine (Tryd.strconv_Atoi_range_var (mkS l) (by omega) (by rw [hd]; exact h) tp p w hv).mono ?_
    rintro e w' ⟨N, rfl, _, _, hb⟩
    exact ⟨_, by rw [hd], hb⟩
theorem atoiV_itoa (n : Int) (h0 : -9223372036854775808 ≤ n) (h1 : n ≤ 9223372036854775807) : atoiV (Lib.itoa n) = n := by
  unfold atoiV; rw [atoi_itoa n h0 h1]
theorem atoiV_range (l : List UInt8) : -9223372036854775808 ≤ atoiV l ∧ atoiV l ≤ 9223372036854775807 := by
  unfold atoiV
  cases h : Lib.atoiAll l with
  | ok v => simp only; have := Lib.atoiAll_bounds h; omega
  | «syntax» => simp only; omega
  | range => simp only; unfold Lib.atoiSat; split <;> (try split) <;> omega
/-- Join of a row that the call made -/
theorem join_any (ls : List (List UInt8)) (v : Value) (w : World) (base : Nat) (hown : w.ownsRow base 9 1 v ls.length (ls.map sv)) (hne : ls ≠ []) (hlen : (Lib.join ls [32]).length ≤ 100000000000) (hll : ls.length ≤ 100000) :
    Calls Tryd.prog 23 #[v, .string ⟨#[32]⟩] w fun e w' => e = .returned (sv (Lib.join ls [32])) ∧ Below w.heap.size w w' := by
  obtain ⟨g, cap, rfl, hg, hg2, hg3, hg4⟩ := ownsRow_some hown (by cases ls; exact absurd rfl hne; simp)
  have hm : (ls.map mkS).map (fun b => b.data.toList) = ls := by
    rw [List.map_map]
    exact (List.map_congr_left (g := id) (fun l _ => by simp [mkS])).trans (List.map_id ls)
  have := Tryd.strings_Join g 0 cap (ls.map mkS) ⟨#[32]⟩ w (fun j x hx => by
      rw [List.getElem?_map] at hx
      cases hj : ls[j]? with
      | none => rw [hj] at hx; cases hx
      | some l =>
        rw [hj] at hx
        simp only [Option.map_some] at hx
        injection hx with hx
        subst hx
        have := hown.cells (g := g) rfl j (sv l) (by rw [List.getElem?_map, hj]; rfl)
        rw [Addr.add_lit] at this
        exact this) (by omega) (by rw [List.length_map]; omega) (by rw [List.length_map]; omega) (by rw [hm]; exact Nat.le_trans hlen (by decide))
  rw [hm, List.length_map] at this
  exact this
end Go.Proofs.YtdefipnmjfnpeaaDoor
