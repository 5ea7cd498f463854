/- Who is told what is missing, again and again, misses nothing: plain laws -/
import Derived.Test.YtjpnlnbpaecciaaMissing
set_option maxRecDepth 100000
namespace Go.Proofs.Ytjpnlnbpaecciaa
open Go.RowKit Go.Spec
/-- each one's size is its place -/
def Ix (ds : List Sg) : Prop := ∀ i (h : i < ds.length), ds[i].z = (i : Int)
def sgH (d : Sg) : Int × List UInt8 := (d.z, d.root)
theorem hdk (d : Sg) : d.hd.k = sgH d := rfl
theorem ix_nodup {ds : List Sg} (h : Ix ds) : (ds.map sgH).Nodup := by
  unfold List.Nodup
  rw [List.pairwise_iff_getElem]
  intro i j hi hj hij he
  rw [List.getElem_map, List.getElem_map] at he
  rw [List.length_map] at hi hj
  have := congrArg (·.1) he
  simp only [sgH] at this
  rw [h i hi, h j hj] at this
  omega
theorem filter_drop : ∀ (V : List Sg) (n : Nat), (V.map sgH).Nodup → V.filter (fun d => !decide (sgH d ∈ (V.take n).map sgH)) = V.drop n
  | V, 0, _ => by simp
  | [], n + 1, _ => rfl
  | v :: V, n + 1, h => by
    rw [List.map_cons, List.nodup_cons] at h
    have ih := filter_drop V n h.2
    rw [List.drop_succ_cons, List.take_succ_cons, List.map_cons, List.filter_cons_of_neg (by simp), ← ih]
    apply List.filter_congr
    intro x hx
    have hne : sgH x ≠ sgH v := fun he => h.1 (he ▸ List.mem_map_of_mem hx)
    simp [hne]
theorem missL_at {ds : List Sg} (h : Ix ds) (n : Nat) : missL ds (((ds.filter Sg.valid).take n).map Sg.hd) = ((ds.filter Sg.valid).drop n).take 3 := by
  have hn : ((ds.filter Sg.valid).map sgH).Nodup := by
    have h1 := ix_nodup h
    have h2 : List.Sublist ((ds.filter Sg.valid).map sgH) (ds.map sgH) := (List.filter_sublist).map _
    exact h1.sublist h2
  unfold missL
  rw [← filter_drop (ds.filter Sg.valid) n hn, List.filter_filter]
  congr 1
  apply List.filter_congr
  intro x hx
  unfold wantB
  rw [Bool.and_comm]
  congr 3
  rw [List.map_map]
  rfl
end Go.Proofs.Ytjpnlnbpaecciaa
