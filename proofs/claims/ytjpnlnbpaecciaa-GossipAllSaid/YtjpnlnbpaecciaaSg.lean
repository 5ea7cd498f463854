/- Heads and signed heads, as values: cells of structs that hold a hash. -/
import Derived.Test.YtjpnlnbpaecciaaBase4
namespace Go.Spec
open Go.RowKit
/-- a head's cells -/
def hdA (z : Int) (root : List UInt8) : Array Value := (.int .i64 z :: root.map bcell).toArray
/-- a signed head's cells -/
def sgA (z : Int) (root : List UInt8) (i : Int) (sig : List UInt8) (p : Value) : Array Value := (.int .i64 z :: (root.map bcell ++ [.int .i64 i, sv sig, p])).toArray
variable {P : Program} {w : World} {z i : Int} {root sig : List UInt8} {p : Value}
@[go_sem] theorem hdA_get0 : (hdA z root)[0]? = some (.int .i64 z) := by simp [hdA]
@[go_sem] theorem sgA_get0 : (sgA z root i sig p)[0]? = some (.int .i64 z) := by simp [sgA]
@[go_sem] theorem hdA_size (h : root.length = 32) : (hdA z root).size = 33 := by simp [hdA, h]
@[go_sem] theorem sgA_size (h : root.length = 32) : (sgA z root i sig p).size = 36 := by simp [sgA, h]
@[go_sem] theorem sgA_get33 (h : root.length = 32) : (sgA z root i sig p)[33]? = some (.int .i64 i) := by simp [sgA, h, List.getElem?_append]
@[go_sem] theorem sgA_get34 (h : root.length = 32) : (sgA z root i sig p)[34]? = some (sv sig) := by simp [sgA, h, List.getElem?_append]
@[go_sem] theorem sgA_get35 (h : root.length = 32) : (sgA z root i sig p)[35]? = some p := by simp [sgA, h, List.getElem?_append]
@[go_sem] theorem hdA_at0 (h : 0 < (hdA z root).size) : (hdA z root)[0] = .int .i64 z := by simp [hdA]
@[go_sem] theorem sgA_at0 (h : 0 < (sgA z root i sig p).size) : (sgA z root i sig p)[0] = .int .i64 z := by simp [sgA]
@[go_sem] theorem sgA_at33 (h : root.length = 32) (k : 33 < (sgA z root i sig p).size) : (sgA z root i sig p)[33] = .int .i64 i := by simp [sgA, h, List.getElem_append]
@[go_sem] theorem sgA_at34 (h : root.length = 32) (k : 34 < (sgA z root i sig p).size) : (sgA z root i sig p)[34] = sv sig := by simp [sgA, h, List.getElem_append]
@[go_sem] theorem sgA_at35 (h : root.length = 32) (k : 35 < (sgA z root i sig p).size) : (sgA z root i sig p)[35] = p := by simp [sgA, h, List.getElem_append]
theorem hdA_root (h : root.length = 32) (j : Nat) (hj : j < root.length) : (hdA z root)[1 + j]? = some (bcell root[j]) := by
  rw [Nat.add_comm]; simp [hdA, hj]
theorem sgA_root (h : root.length = 32) (j : Nat) (hj : j < root.length) : (sgA z root i sig p)[1 + j]? = some (bcell root[j]) := by
  rw [Nat.add_comm]; simp [sgA, List.getElem?_append, hj]
theorem _root_.Go.Spec.Blk.hd0 {g : Nat} {t : TypeId} (h : Blk w g (hdA z root) t) : w.cell? ⟨g, 0, none⟩ = some (.int .i64 z) := by rw [h.cell, hdA_get0]
theorem _root_.Go.Spec.Blk.sg0 {g : Nat} {t : TypeId} (h : Blk w g (sgA z root i sig p) t) : w.cell? ⟨g, 0, none⟩ = some (.int .i64 z) := by rw [h.cell, sgA_get0]
theorem _root_.Go.Spec.Blk.sg33 {g : Nat} {t : TypeId} (h : Blk w g (sgA z root i sig p) t) (hr : root.length = 32) : w.cell? ⟨g, 33, none⟩ = some (.int .i64 i) := by rw [h.cell, sgA_get33 hr]
theorem _root_.Go.Spec.Blk.sg34 {g : Nat} {t : TypeId} (h : Blk w g (sgA z root i sig p) t) (hr : root.length = 32) : w.cell? ⟨g, 34, none⟩ = some (sv sig) := by rw [h.cell, sgA_get34 hr]
theorem _root_.Go.Spec.Blk.sg35 {g : Nat} {t : TypeId} (h : Blk w g (sgA z root i sig p) t) (hr : root.length = 32) : w.cell? ⟨g, 35, none⟩ = some p := by rw [h.cell, sgA_get35 hr]
theorem _root_.Go.Spec.Blk.piece {w : World} {g : Nat} {cs : Array Value} {t : TypeId} (h : Blk w g cs t) (o : Nat) (l : List Value) (hl : ∀ j (hj : j < l.length), cs[o + j]? = some l[j]) : ∀ j u, l[j]? = some u → w.cell? ((⟨g, o, none⟩ : Addr).add j) = some u := by
  intro j u hu
  have hj : j < l.length := (List.getElem?_eq_some_iff.1 hu).1
  rw [Addr.add_lit, h.cell, hl j hj]
  rw [List.getElem?_eq_getElem hj] at hu
  exact hu
theorem _root_.Go.Spec.Blk.sgRoot {g : Nat} {t : TypeId} (h : Blk w g (sgA z root i sig p) t) (hr : root.length = 32) : ∀ j u, (root.map bcell)[j]? = some u → w.cell? ((⟨g, 1, none⟩ : Addr).add j) = some u :=
  h.piece 1 _ (fun j hj => by rw [sgA_root hr j (by simpa using hj)]; simp)
theorem _root_.Go.Spec.Blk.hdRoot {g : Nat} {t : TypeId} (h : Blk w g (hdA z root) t) (hr : root.length = 32) : ∀ j u, (root.map bcell)[j]? = some u → w.cell? ((⟨g, 1, none⟩ : Addr).add j) = some u :=
  h.piece 1 _ (fun j hj => by rw [hdA_root hr j (by simpa using hj)]; simp)
theorem _root_.Go.Spec.Blk.sgHead {g : Nat} {t : TypeId} (h : Blk w g (sgA z root i sig p) t) : ∀ j u, (hdA z root).toList[j]? = some u → w.cell? ((⟨g, 0, none⟩ : Addr).add j) = some u :=
  h.piece 0 _ (fun j hj => by
    rw [Nat.zero_add]
    simp only [hdA, sgA, List.length_cons, List.length_map] at hj ⊢
    simp only [List.getElem?_toArray]
    rw [← List.cons_append, List.getElem?_append_left (by simpa using hj), List.getElem?_eq_getElem])
theorem hdA_one : ∀ v ∈ (hdA z root).toList, v.oneCell' = true := by
  intro v hv
  simp only [hdA, List.mem_cons, List.mem_map] at hv
  rcases hv with rfl | ⟨b, _, rfl⟩ <;> rfl
theorem sgA_one (hp : p.oneCell' = true) : ∀ v ∈ (sgA z root i sig p).toList, v.oneCell' = true := by
  intro v hv
  simp only [sgA, List.mem_cons, List.mem_append, List.mem_map, List.not_mem_nil, or_false] at hv
  rcases hv with rfl | ⟨b, _, rfl⟩ | rfl | rfl | rfl
  · rfl
  · rfl
  · rfl
  · rfl
  · exact hp
end Go.Spec
