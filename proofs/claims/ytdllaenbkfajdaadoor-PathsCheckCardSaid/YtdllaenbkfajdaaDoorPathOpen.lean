/- Opening an argument that is a claim. -/
import Derived.Test.YtdllaenbkfajdaaDoorOpen2
import Derived.Test.YtdllaenbkfajdaaDoorPathLawCheck
namespace Go.Spec
open Go.RowKit Go.Deep
variable {H : Type} {enc : TypeId × Value → H} {P : Program} {w : World} {base : Nat} {spare : Nat → Bool} {held : Bool}
theorem open_claim {r : Reach} {b0 : Nat} {t th ti e : TypeId} {fs : Array Field} {v : Value} {d : DataW H} {p : List MemPlace} (ht : P.underlying t = some (.struct fs))
    (h0 : fs[0]?.map (fun f => (f.type, f.offset)) = some (th, 0)) (h1 : fs[1]?.map (fun f => (f.type, f.offset)) = some (th, 32)) (h2 : fs[2]?.map (fun f => (f.type, f.offset)) = some (ti, 64)) (h3 : fs[3]?.map (fun f => (f.type, f.offset)) = some (ti, 65))
    (hth : P.underlying th = some (.array 32 e)) (he : P.underlying e = some (.int .u8)) (hti : P.underlying ti = some (.int .i64)) (hce : P.cellsOf e = 1) (hcth : P.cellsOf th = 32) (hcti : P.cellsOf ti = 1) (hct : P.cellsOf t = 66)
    (hv : Value.okWide P w r b0 t v) (h : DataW.Trod enc P w base spare held t v d p) : ∃ (a q : List UInt8) (i n : Int), v = .agg (claimC a q i n) ∧ a.length = 32 ∧ q.length = 32 := by
  have hcs : ∃ cs, v = .agg cs ∧ cs.size = P.cellsOf t := by
    simp only [Value.okWide, ht] at hv
    cases v <;> simp_all
  obtain ⟨cs, rfl, hsz⟩ := hcs
  obtain ⟨fuel, hf⟩ := h
  have hf' : DataW.trod enc P w base spare held fuel t cs.toList = some (d, p) := hf
  have hl : cs.toList.length = 66 := by simpa using hsz.trans hct
  obtain ⟨xs, m, _, _, _, hxs, hx⟩ := DataW.trod_struct ht hf'
  have get : ∀ (i : Nat) (ty : TypeId) (o : Nat), fs[i]?.map (fun f => (f.type, f.offset)) = some (ty, o) → ∃ y, DataW.trod enc P w base spare held m ty ((cs.toList.drop o).take (P.cellsOf ty)) = some y := fun i ty o hi => by
    obtain ⟨f, hf1, hf2⟩ := Option.map_eq_some_iff.1 hi
    injection hf2 with e1 e2
    have hlt : i < fs.size := (Array.getElem?_eq_some_iff.1 hf1).1
    have := hx i f hf1
    rw [e1, e2, List.getElem?_eq_getElem (by omega)] at this
    exact ⟨_, this⟩
  have bytes : ∀ (i o : Nat), o + 32 ≤ 66 → fs[i]?.map (fun f => (f.type, f.offset)) = some (th, o) → ∃ l : List UInt8, (cs.toList.drop o).take 32 = l.map bcell ∧ l.length = 32 := fun i o ho hi => by
    obtain ⟨y, hy⟩ := get i th o hi
    rw [hcth] at hy
    exact open_bytes hth he hce hy (by rw [List.length_take, List.length_drop]; omega)
  have num : ∀ (i o : Nat) (ho : o < cs.toList.length), fs[i]?.map (fun f => (f.type, f.offset)) = some (ti, o) → ∃ x : Int, cs.toList[o] = .int .i64 x := fun i o ho hi => by
    obtain ⟨y, hy⟩ := get i ti o hi
    rw [hcti, List.drop_eq_getElem_cons ho, List.take_succ_cons, List.take_zero] at hy
    obtain ⟨q, hq, _, _⟩ := DataW.trod_int hti hy
    injection hq with hq
    exact ⟨q, hq⟩
  obtain ⟨a, ha, hal⟩ := bytes 0 0 (by omega) h0
  obtain ⟨q, hq, hql⟩ := bytes 1 32 (by omega) h1
  obtain ⟨i, hi⟩ := num 2 64 (by omega) h2
  obtain ⟨n, hn⟩ := num 3 65 (by omega) h3
  refine ⟨a, q, i, n, ?_, hal, hql⟩
  congr 1
  apply Array.toList_inj.1
  unfold claimC
  rw [List.toList_toArray, ← ha, ← hq, ← hi, ← hn, List.drop_zero]
  have e1 : cs.toList = cs.toList.take 32 ++ cs.toList.drop 32 := (List.take_append_drop 32 _).symm
  have e2 : cs.toList.drop 32 = (cs.toList.drop 32).take 32 ++ cs.toList.drop 64 := by
    conv => lhs; rw [← List.take_append_drop 32 (cs.toList.drop 32), List.drop_drop]
  have e3 : cs.toList.drop 64 = [cs.toList[64], cs.toList[65]] := by
    rw [List.drop_eq_getElem_cons (by omega), List.drop_eq_getElem_cons (by omega), List.drop_eq_nil_of_le (by omega)]
  conv => lhs; rw [e1, e2, e3]
  rw [List.append_assoc]
end Go.Spec
