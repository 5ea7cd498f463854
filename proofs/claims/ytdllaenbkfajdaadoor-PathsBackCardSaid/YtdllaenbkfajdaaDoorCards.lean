/-
  DERIVED. GIVEN WITH THE SEED: THE CARDS: each row of YtdllaenbkfajdaaDoorRows.lean that lists a variable, with what it lists TIED to the program's text (the seventh form; the later family's looks); each row that meets fmt, with fmt's text TOLD by the authors' own Lean function (tested against real Go, not proved from fmt's source: count such statements apart). THE CARD IS WHAT COUNTS. Prove the row's statement (the work); the ties are given (YtdllaenbkfajdaaDoorTie.lean); close each card by the builder's one call (the guide's Derived/Test/ToyasCard.lean, 'card_holds'). Laid BY PROGRAM, IN A SANDBOX (cutbox-door.mjs). By AI agents, Wed Nov 11 2026. No macro, syntax, notation, axiom, sorry.
-/
import Derived.Test.YtdllaenbkfajdaaDoorRows
import GoSem.ClaimSeven
namespace Go.Proofs.YtdllaenbkfajdaaDoor
namespace Rows

/-- THE TIED CARD OF 'speculumlaw04.TreesRoot'. -/
def treesRootCard : Claim7 := { stood := { row := treesRootRow, standIns := [], harness := (true, "4d0e15e381da58a18e86b12879f475282c138da8611d627b18a392fd19eebb03"), looks := false }, kinds := [], alts := [], laidByText := true, laidKinds := [.data, .data], laidTests := true, laidLooks := .later }
def TreesRootCardSaid : Prop := Claim7.holds Tryd.pinned (.plain (OpenSpec.ofChange treesRootSpec)) treesRootCard

/-- THE TIED CARD OF 'speculumlaw04.TreesHalves'. -/
def treesHalvesCard : Claim7 := { stood := { row := treesHalvesRow, standIns := [], harness := (true, "4d0e15e381da58a18e86b12879f475282c138da8611d627b18a392fd19eebb03"), looks := false }, kinds := [], alts := [], laidByText := true, laidKinds := [.data, .data], laidTests := true, laidLooks := .later }
def TreesHalvesCardSaid : Prop := Claim7.holds Tryd.pinned (.plain (OpenSpec.ofChange treesHalvesSpec)) treesHalvesCard

/-- THE TIED CARD OF 'speculumlaw04.TreesHash'. -/
def treesHashCard : Claim7 := { stood := { row := treesHashRow, standIns := [], harness := (true, "4d0e15e381da58a18e86b12879f475282c138da8611d627b18a392fd19eebb03"), looks := false }, kinds := [], alts := [], laidByText := true, laidKinds := [.data, .data], laidTests := true, laidLooks := .later }
def TreesHashCardSaid : Prop := Claim7.holds Tryd.pinned (.plain (OpenSpec.ofChange treesHashSpec)) treesHashCard

/-- THE TIED CARD OF 'speculumlaw02.ShaSum'. -/
def shaSumCard : Claim7 := { stood := { row := shaSumRow, standIns := [], harness := (true, "4d0e15e381da58a18e86b12879f475282c138da8611d627b18a392fd19eebb03"), looks := false }, kinds := [], alts := [], laidByText := true, laidKinds := [.data, .data], laidTests := true, laidLooks := .later }
def ShaSumCardSaid : Prop := Claim7.holds Tryd.pinned (.plain (OpenSpec.ofChange shaSumSpec)) shaSumCard

/-- THE TIED CARD OF 'speculumlaw02.ShaHex'. -/
def shaHexCard : Claim7 := { stood := { row := shaHexRow, standIns := [], harness := (true, "4d0e15e381da58a18e86b12879f475282c138da8611d627b18a392fd19eebb03"), looks := false }, kinds := [], alts := [], laidByText := true, laidKinds := [.data, .data], laidTests := true, laidLooks := .later }
def ShaHexCardSaid : Prop := Claim7.holds Tryd.pinned (.plain (OpenSpec.ofChange shaHexSpec)) shaHexCard

/-- THE TIED CARD OF 'speculumlaw02.ShaBack'. -/
def shaBackCard : Claim7 := { stood := { row := shaBackRow, standIns := [], harness := (true, "4d0e15e381da58a18e86b12879f475282c138da8611d627b18a392fd19eebb03"), looks := false }, kinds := [], alts := [], laidByText := true, laidKinds := [.data, .data], laidTests := true, laidLooks := .later }
def ShaBackCardSaid : Prop := Claim7.holds Tryd.pinned (.plain (OpenSpec.ofChange shaBackSpec)) shaBackCard

/-- THE TIED CARD OF 'speculumlaw06.PathsPath'. -/
def pathsPathCard : Claim7 := { stood := { row := pathsPathRow, standIns := [], harness := (true, "4d0e15e381da58a18e86b12879f475282c138da8611d627b18a392fd19eebb03"), looks := false }, kinds := [], alts := [], laidByText := true, laidKinds := [.data, .data], laidTests := true, laidLooks := .later }
def PathsPathCardSaid : Prop := Claim7.holds Tryd.pinned (.plain (OpenSpec.ofChange pathsPathSpec)) pathsPathCard

/-- THE TIED CARD OF 'speculumlaw06.PathsCheck'. -/
def pathsCheckCard : Claim7 := { stood := { row := pathsCheckRow, standIns := [], harness := (true, "4d0e15e381da58a18e86b12879f475282c138da8611d627b18a392fd19eebb03"), looks := false }, kinds := [], alts := [], laidByText := true, laidKinds := [.data, .data], laidTests := true, laidLooks := .later }
def PathsCheckCardSaid : Prop := Claim7.holds Tryd.pinned (.plain (OpenSpec.ofChange pathsCheckSpec)) pathsCheckCard

/-- THE TIED CARD OF 'speculumlaw06.PathsBack'. -/
def pathsBackCard : Claim7 := { stood := { row := pathsBackRow, standIns := [], harness := (true, "4d0e15e381da58a18e86b12879f475282c138da8611d627b18a392fd19eebb03"), looks := false }, kinds := [], alts := [], laidByText := true, laidKinds := [.data, .data], laidTests := true, laidLooks := .later }
def PathsBackCardSaid : Prop := Claim7.holds Tryd.pinned (.plain (OpenSpec.ofChange pathsBackSpec)) pathsBackCard

/-- THE SECOND FORM's CARD OF 'speculumlaw04.TreesRoot'. -/
def treesRootUptoCard : Claim7 := { stood := { row := treesRootUptoRow, standIns := [], harness := (true, "4d0e15e381da58a18e86b12879f475282c138da8611d627b18a392fd19eebb03"), looks := false }, kinds := [], alts := [], laidByText := true, laidKinds := [.data, .data], laidTests := true, laidLooks := .later }
def TreesRootUptoCardSaid : Prop := Claim7.holds Tryd.pinned (.plain (OpenSpec.upto treesRootSpec)) treesRootUptoCard

/-- THE SECOND FORM's CARD OF 'speculumlaw04.TreesHalves'. -/
def treesHalvesUptoCard : Claim7 := { stood := { row := treesHalvesUptoRow, standIns := [], harness := (true, "4d0e15e381da58a18e86b12879f475282c138da8611d627b18a392fd19eebb03"), looks := false }, kinds := [], alts := [], laidByText := true, laidKinds := [.data, .data], laidTests := true, laidLooks := .later }
def TreesHalvesUptoCardSaid : Prop := Claim7.holds Tryd.pinned (.plain (OpenSpec.upto treesHalvesSpec)) treesHalvesUptoCard

/-- THE SECOND FORM's CARD OF 'speculumlaw04.TreesHash'. -/
def treesHashUptoCard : Claim7 := { stood := { row := treesHashUptoRow, standIns := [], harness := (true, "4d0e15e381da58a18e86b12879f475282c138da8611d627b18a392fd19eebb03"), looks := false }, kinds := [], alts := [], laidByText := true, laidKinds := [.data, .data], laidTests := true, laidLooks := .later }
def TreesHashUptoCardSaid : Prop := Claim7.holds Tryd.pinned (.plain (OpenSpec.upto treesHashSpec)) treesHashUptoCard

/-- THE SECOND FORM's CARD OF 'speculumlaw02.ShaSum'. -/
def shaSumUptoCard : Claim7 := { stood := { row := shaSumUptoRow, standIns := [], harness := (true, "4d0e15e381da58a18e86b12879f475282c138da8611d627b18a392fd19eebb03"), looks := false }, kinds := [], alts := [], laidByText := true, laidKinds := [.data, .data], laidTests := true, laidLooks := .later }
def ShaSumUptoCardSaid : Prop := Claim7.holds Tryd.pinned (.plain (OpenSpec.upto shaSumSpec)) shaSumUptoCard

/-- THE SECOND FORM's CARD OF 'speculumlaw02.ShaHex'. -/
def shaHexUptoCard : Claim7 := { stood := { row := shaHexUptoRow, standIns := [], harness := (true, "4d0e15e381da58a18e86b12879f475282c138da8611d627b18a392fd19eebb03"), looks := false }, kinds := [], alts := [], laidByText := true, laidKinds := [.data, .data], laidTests := true, laidLooks := .later }
def ShaHexUptoCardSaid : Prop := Claim7.holds Tryd.pinned (.plain (OpenSpec.upto shaHexSpec)) shaHexUptoCard

/-- THE SECOND FORM's CARD OF 'speculumlaw02.ShaBack'. -/
def shaBackUptoCard : Claim7 := { stood := { row := shaBackUptoRow, standIns := [], harness := (true, "4d0e15e381da58a18e86b12879f475282c138da8611d627b18a392fd19eebb03"), looks := false }, kinds := [], alts := [], laidByText := true, laidKinds := [.data, .data], laidTests := true, laidLooks := .later }
def ShaBackUptoCardSaid : Prop := Claim7.holds Tryd.pinned (.plain (OpenSpec.upto shaBackSpec)) shaBackUptoCard

/-- THE SECOND FORM's CARD OF 'speculumlaw06.PathsPath'. -/
def pathsPathUptoCard : Claim7 := { stood := { row := pathsPathUptoRow, standIns := [], harness := (true, "4d0e15e381da58a18e86b12879f475282c138da8611d627b18a392fd19eebb03"), looks := false }, kinds := [], alts := [], laidByText := true, laidKinds := [.data, .data], laidTests := true, laidLooks := .later }
def PathsPathUptoCardSaid : Prop := Claim7.holds Tryd.pinned (.plain (OpenSpec.upto pathsPathSpec)) pathsPathUptoCard

/-- THE SECOND FORM's CARD OF 'speculumlaw06.PathsCheck'. -/
def pathsCheckUptoCard : Claim7 := { stood := { row := pathsCheckUptoRow, standIns := [], harness := (true, "4d0e15e381da58a18e86b12879f475282c138da8611d627b18a392fd19eebb03"), looks := false }, kinds := [], alts := [], laidByText := true, laidKinds := [.data, .data], laidTests := true, laidLooks := .later }
def PathsCheckUptoCardSaid : Prop := Claim7.holds Tryd.pinned (.plain (OpenSpec.upto pathsCheckSpec)) pathsCheckUptoCard

/-- THE SECOND FORM's CARD OF 'speculumlaw06.PathsBack'. -/
def pathsBackUptoCard : Claim7 := { stood := { row := pathsBackUptoRow, standIns := [], harness := (true, "4d0e15e381da58a18e86b12879f475282c138da8611d627b18a392fd19eebb03"), looks := false }, kinds := [], alts := [], laidByText := true, laidKinds := [.data, .data], laidTests := true, laidLooks := .later }
def PathsBackUptoCardSaid : Prop := Claim7.holds Tryd.pinned (.plain (OpenSpec.upto pathsBackSpec)) pathsBackUptoCard
end Rows
end Go.Proofs.YtdllaenbkfajdaaDoor
