/- Opening an argument that is a hash. -/
import Derived.Test.YtdefipnmjfnpeaaDoorQOpen
import Derived.Lib.SmallJoins
set_option maxRecDepth 100000
namespace Go.Spec
open Go.RowKit Go.Deep
variable {H : Type} {enc : TypeId × Value → H} {P : Program} {w : World} {base : Nat} {spare : Nat → Bool} {held : Bool}
theorem open_hash {r : Reach} {b0 : Nat} {t e : TypeId} {v : Value} {d : DataW H} {p : List MemPlace} (ht : P.underlying t = some (.array 32 e)) (he : P.underlying e = some (.int .u8)) (hce : P.cellsOf e = 1) (hct : P.cellsOf t = 32)
    (hv : Value.okWide P w r b0 t v) (h : DataW.Trod enc P w base spare held t v d p) : ∃ l : List UInt8, v = Go.Spec.hv l ∧ l.length = 32 := by
  have hcs : ∃ cs, v = .agg cs ∧ cs.size = P.cellsOf t := by
    simp only [Value.okWide, ht] at hv
    cases v <;> simp_all
  obtain ⟨cs, rfl, hsz⟩ := hcs
  obtain ⟨fuel, hf⟩ := h
  have hf' : DataW.trod enc P w base spare held fuel t cs.toList = some (d, p) := hf
  obtain ⟨l, h1, h2⟩ := open_bytes ht he hce hf' (by simpa using hsz.trans hct)
  refine ⟨l, ?_, h2⟩
  show Value.agg cs = .agg (l.map bcell).toArray
  rw [← h1]
theorem u8n_of_wf {x : Int} (h : (Lit.int .u8 x).wf = true) : ∃ n : Nat, x = n ∧ n < 256 := by
  have h2 := h
  simp [Lit.wf, IntKind.has, IntKind.min, IntKind.max, IntKind.bits, IntKind.signed] at h2
  exact ⟨x.toNat, by omega, by omega⟩
theorem u8b_of_wf {x : Int} (h : (Lit.int .u8 x).wf = true) : ∃ b : UInt8, x = (b.toNat : Int) := by
  obtain ⟨n, rfl, hn⟩ := u8n_of_wf h
  exact ⟨UInt8.ofNat n, by rw [UInt8.toNat_ofNat_of_lt' hn]⟩
/-- the cells of an array argument -/
theorem open_arr {r : Reach} {b0 n : Nat} {t e : TypeId} {v : Value} {d : DataW H} {p : List MemPlace} (ht : P.underlying t = some (.array n e))
    (hv : Value.okWide P w r b0 t v) (h : DataW.Trod enc P w base spare held t v d p) : ∃ cs, v = .agg cs ∧ cs.size = P.cellsOf t ∧ ∃ fuel, DataW.trod enc P w base spare held fuel t cs.toList = some (d, p) := by
  have hcs : ∃ cs, v = .agg cs ∧ cs.size = P.cellsOf t := by
    simp only [Value.okWide, ht] at hv
    cases v <;> simp_all
  obtain ⟨cs, rfl, hsz⟩ := hcs
  obtain ⟨fuel, hf⟩ := h
  exact ⟨cs, rfl, hsz, fuel, hf⟩
theorem open_byteArr {n : Nat} {r : Reach} {b0 : Nat} {t e : TypeId} {v : Value} {d : DataW H} {p : List MemPlace} (ht : P.underlying t = some (.array n e)) (he : P.underlying e = some (.int .u8)) (hce : P.cellsOf e = 1) (hct : P.cellsOf t = n)
    (hv : Value.okWide P w r b0 t v) (h : DataW.Trod enc P w base spare held t v d p) : ∃ l : List UInt8, v = Go.Spec.hv l ∧ l.length = n := by
  obtain ⟨cs, rfl, hsz, fuel, hf⟩ := open_arr ht hv h
  obtain ⟨l, h1, h2⟩ := open_bytes ht he hce hf (by simpa using hsz.trans hct)
  refine ⟨l, ?_, h2⟩
  show Value.agg cs = .agg (l.map bcell).toArray
  rw [← h1]
theorem open_byteArr2 {r : Reach} {b0 : Nat} {t e : TypeId} {v : Value} {d : DataW H} {p : List MemPlace} (ht : P.underlying t = some (.array 2 e)) (he : P.underlying e = some (.int .u8)) (hce : P.cellsOf e = 1) (hct : P.cellsOf t = 2)
    (hv : Value.okWide P w r b0 t v) (h : DataW.Trod enc P w base spare held t v d p) : ∃ x y : UInt8, v = Go.Spec.hv [x, y] := by
  obtain ⟨l, rfl, hl⟩ := open_byteArr ht he hce hct hv h
  match l, hl with
  | [x, y], _ => exact ⟨x, y, rfl⟩
theorem open_hash2 {r : Reach} {b0 : Nat} {t th e : TypeId} {v : Value} {d : DataW H} {p : List MemPlace} (ht : P.underlying t = some (.array 2 th)) (hth : P.underlying th = some (.array 32 e)) (he : P.underlying e = some (.int .u8)) (hce : P.cellsOf e = 1) (hcth : P.cellsOf th = 32) (hct : P.cellsOf t = 64)
    (hv : Value.okWide P w r b0 t v) (h : DataW.Trod enc P w base spare held t v d p) : ∃ a b : List UInt8, v = Go.Spec.hv (a ++ b) ∧ a.length = 32 ∧ b.length = 32 := by
  obtain ⟨cs, rfl, hsz, fuel, hf⟩ := open_arr ht hv h
  have hl : cs.toList.length = 64 := by simpa using hsz.trans hct
  obtain ⟨xs, m, _, _, _, _, hx⟩ := DataW.trod_array ht hf
  rw [hcth] at hx
  have part : ∀ i, i < 2 → ∃ l : List UInt8, (cs.toList.drop (i * 32)).take 32 = l.map bcell ∧ l.length = 32 := fun i hi => by
    have h1 := hx i hi
    rw [List.getElem?_eq_getElem (by omega)] at h1
    exact open_bytes hth he hce h1 (by rw [List.length_take, List.length_drop]; omega)
  obtain ⟨a, ha, hal⟩ := part 0 (by omega)
  obtain ⟨b, hb, hbl⟩ := part 1 (by omega)
  refine ⟨a, b, ?_, hal, hbl⟩
  show Value.agg cs = .agg ((a ++ b).map bcell).toArray
  rw [List.map_append, ← ha, ← hb]
  have : cs.toList = (cs.toList.drop (0 * 32)).take 32 ++ (cs.toList.drop (1 * 32)).take 32 := by
    rw [Nat.zero_mul, List.drop_zero, Nat.one_mul, List.take_of_length_le (l := cs.toList.drop 32) (by rw [List.length_drop]; omega), List.take_append_drop]
  rw [← this]
/-- three numbers in an array -/
theorem open_int3 {r : Reach} {b0 : Nat} {t e : TypeId} {v : Value} {d : DataW H} {p : List MemPlace} (ht : P.underlying t = some (.array 3 e)) (he : P.underlying e = some (.int .i64)) (hce : P.cellsOf e = 1) (hct : P.cellsOf t = 3)
    (hv : Value.okWide P w r b0 t v) (h : DataW.Trod enc P w base spare held t v d p) : ∃ x y z : Int, v = .agg #[.int .i64 x, .int .i64 y, .int .i64 z] ∧ (-9223372036854775808 ≤ x ∧ x ≤ 9223372036854775807) ∧ (-9223372036854775808 ≤ y ∧ y ≤ 9223372036854775807) ∧ (-9223372036854775808 ≤ z ∧ z ≤ 9223372036854775807) := by
  obtain ⟨cs, rfl, hsz, fuel, hf⟩ := open_arr ht hv h
  have hl : cs.toList.length = 3 := by simpa using hsz.trans hct
  obtain ⟨xs, m, _, _, _, hxs, hx⟩ := DataW.trod_array ht hf
  rw [hce] at hx
  have part : ∀ i (hi : i < cs.toList.length), ∃ x : Int, cs.toList[i] = .int .i64 x ∧ (-9223372036854775808 ≤ x ∧ x ≤ 9223372036854775807) := fun i hi => by
    have h1 := hx i (by omega)
    rw [Nat.mul_one, List.drop_eq_getElem_cons hi, List.take_succ_cons, List.take_zero] at h1
    rw [List.getElem?_eq_getElem (by omega)] at h1
    obtain ⟨q, hq, _, hwf⟩ := DataW.trod_int he h1
    injection hq with hq
    exact ⟨q, hq, i64_of_wf hwf⟩
  obtain ⟨x, hx0, hx1⟩ := part 0 (by omega)
  obtain ⟨y, hy0, hy1⟩ := part 1 (by omega)
  obtain ⟨z, hz0, hz1⟩ := part 2 (by omega)
  refine ⟨x, y, z, ?_, hx1, hy1, hz1⟩
  congr 1
  apply Array.toList_inj.1
  match hcl : cs.toList, hl with
  | [a, b, c], _ =>
    simp only [hcl, List.getElem_cons_zero, List.getElem_cons_succ] at hx0 hy0 hz0
    rw [hx0, hy0, hz0]
end Go.Spec
