/- What the listed variables give the walks: the two tables of the hash. -/
import Derived.Test.YtbpjlancjdbehaaDoorQShaSum
import Derived.Test.YtbpjlancjdbehaaDoorRows
import Derived.Test.YtbpjlancjdbehaaDoorChecked
import Derived.Lib.LaidTab
import Derived.LaidMore
import Derived.OpenShut
import Derived.Stop.Joined
import Derived.Stop.LaidErr
set_option maxRecDepth 100000
namespace Go.Proofs.YtbpjlancjdbehaaDoor
open Go.ChangeShapes Go.WideShapes Go.ChangeAt Go.RowKit Go.Spec
def laidSha {H : Type} : List (String × DataW H) := [("speculum/sha.first", Rows.laid_speculum_sha_first), ("speculum/sha.rounds", Rows.laid_speculum_sha_rounds)]
theorem Tryd.own : ownKnob Tryd.prog.godebug = none := by kernel_rfl
theorem Tryd.laidOut : laidOutB Tryd.prog = true := by kernel_rfl
theorem gFirst : Tryd.prog.globalNamed "speculum/sha.first" = some 0 := by kernel_rfl
theorem gRounds : Tryd.prog.globalNamed "speculum/sha.rounds" = some 1 := by kernel_rfl
theorem tFirst : (Tryd.prog.globals[0]?).map (·.type) = some 105 := by kernel_rfl
theorem tRounds : (Tryd.prog.globals[1]?).map (·.type) = some 130 := by kernel_rfl
theorem cU32 : Tryd.prog.cellsOf 104 = 1 := by kernel_rfl
theorem c8 : Tryd.prog.cellsOf 105 = 8 := by kernel_rfl
theorem c64 : Tryd.prog.cellsOf 130 = 64 := by kernel_rfl
theorem door_met (os : Os) (args : Array Value) : laidMetH Tryd.prog laidSha ((World.doorLaid Tryd.prog 19 os).forCall (fun _ _ => 0) ⟨#[], args, []⟩).memory :=
  laidMetH_of_parts3 (fuel := 8) (laidMet_of_run' 8 (by kernel_rfl) (by kernel_rfl)) (by kernel_rfl) (by kernel_rfl)
theorem firstData {H : Type} : (Rows.laid_speculum_sha_first : DataW H) = Lib.tabData .u32 (v0.l.map fun n : Nat => (n : Int)) := rfl
theorem roundsData {H : Type} : (Rows.laid_speculum_sha_rounds : DataW H) = Lib.tabData .u32 (rK.map fun n : Nat => (n : Int)) := rfl
theorem tab_of {W : World} {name : String} {g : Nat} {ns : List Nat} (h : Lib.TabIs Tryd.prog W name .u32 (ns.map fun n : Nat => (n : Int))) (hg : Tryd.prog.globalNamed name = some g) (hn : 0 < ns.length) : Tab W g ns := by
  have hc : ∀ i, i < ns.length → W.cell? ⟨g, i, none⟩ = some (.int .u32 (ns.getD i 0 : Nat)) := fun i hi => by
    have := h.cell hg i (by simpa using hi)
    rw [this, List.getD_eq_getElem?_getD, List.getD_eq_getElem?_getD, List.getElem?_map, List.getElem?_eq_getElem hi]
    rfl
  exact ⟨World.block_lt_of_cell? W _ (hc 0 hn), hc⟩
theorem sha_of_laid {W : World} (h : laidMetH Tryd.prog laidSha W) : ShaG W := by
  rw [MakeChecks.laidMetH_plain _ _ _ (by kernel_rfl)] at h
  have h1 : laidMet Tryd.prog (("speculum/sha.first", Lib.tabData .u32 (v0.l.map fun n : Nat => (n : Int))) :: [("speculum/sha.rounds", Rows.laid_speculum_sha_rounds)]) W := h
  have h2 : laidMet Tryd.prog (("speculum/sha.rounds", Lib.tabData .u32 (rK.map fun n : Nat => (n : Int))) :: []) W := h1.tail
  exact ⟨tab_of (Lib.tabIs_of_head gFirst tFirst Tryd.underlying105 Tryd.underlying104 cU32 c8 h1) gFirst (by decide), tab_of (Lib.tabIs_of_head gRounds tRounds Tryd.underlying130 Tryd.underlying104 cU32 c64 h2) gRounds (by decide)⟩
end Go.Proofs.YtbpjlancjdbehaaDoor
