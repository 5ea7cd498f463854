/-
  DERIVED. GIVEN WITH THE SEED: THE CARDS: each row of YtchpoggegdocpaaDoorRows.lean that lists a variable, with what it lists TIED to the program's text (the seventh form; the later family's looks); each row that meets fmt, with fmt's text TOLD by the authors' own Lean function (tested against real Go, not proved from fmt's source: count such statements apart). THE CARD IS WHAT COUNTS. Prove the row's statement (the work); the ties are given (YtchpoggegdocpaaDoorTie.lean); close each card by the builder's one call (the guide's Derived/Test/ToyasCard.lean, 'card_holds'). Laid BY PROGRAM, IN A SANDBOX (cutbox-door.mjs). By AI agents, Wed Nov 11 2026. No macro, syntax, notation, axiom, sorry.
-/
import Derived.Test.YtchpoggegdocpaaDoorRows
import GoSem.ClaimSeven
namespace Go.Proofs.YtchpoggegdocpaaDoor
namespace Rows

/-- THE TIED CARD OF 'speculumlaw12.FramesTell'. -/
def framesTellCard : Claim7 := { stood := { row := framesTellRow, standIns := [], harness := (true, "4062e8f7e4a1b57097d91024cf3507a34cc1744671861a1ad81485569e487d13"), looks := false }, kinds := [], alts := [], laidByText := true, laidKinds := [.data, .data], laidTests := true, laidLooks := .later }
def FramesTellCardSaid : Prop := Claim7.holds Tryd.pinned (.plain (OpenSpec.ofChange framesTellSpec)) framesTellCard

/-- THE TIED CARD OF 'speculumlaw12.FramesRow'. -/
def framesRowCard : Claim7 := { stood := { row := framesRowRow, standIns := [], harness := (true, "4062e8f7e4a1b57097d91024cf3507a34cc1744671861a1ad81485569e487d13"), looks := false }, kinds := [], alts := [], laidByText := true, laidKinds := [.data, .data], laidTests := true, laidLooks := .later }
def FramesRowCardSaid : Prop := Claim7.holds Tryd.pinned (.plain (OpenSpec.ofChange framesRowSpec)) framesRowCard

/-- THE TIED CARD OF 'speculumlaw12.FramesTorn'. -/
def framesTornCard : Claim7 := { stood := { row := framesTornRow, standIns := [], harness := (true, "4062e8f7e4a1b57097d91024cf3507a34cc1744671861a1ad81485569e487d13"), looks := false }, kinds := [], alts := [], laidByText := true, laidKinds := [.data, .data], laidTests := true, laidLooks := .later }
def FramesTornCardSaid : Prop := Claim7.holds Tryd.pinned (.plain (OpenSpec.ofChange framesTornSpec)) framesTornCard

/-- THE TIED CARD OF 'speculumlaw12.FramesLong'. -/
def framesLongCard : Claim7 := { stood := { row := framesLongRow, standIns := [], harness := (true, "4062e8f7e4a1b57097d91024cf3507a34cc1744671861a1ad81485569e487d13"), looks := false }, kinds := [], alts := [], laidByText := true, laidKinds := [.data, .data], laidTests := true, laidLooks := .later }
def FramesLongCardSaid : Prop := Claim7.holds Tryd.pinned (.plain (OpenSpec.ofChange framesLongSpec)) framesLongCard

/-- THE TIED CARD OF 'speculumlaw08.LamportSign'. -/
def lamportSignCard : Claim7 := { stood := { row := lamportSignRow, standIns := [], harness := (true, "4062e8f7e4a1b57097d91024cf3507a34cc1744671861a1ad81485569e487d13"), looks := false }, kinds := [], alts := [], laidByText := true, laidKinds := [.data, .data], laidTests := true, laidLooks := .later }
def LamportSignCardSaid : Prop := Claim7.holds Tryd.pinned (.plain (OpenSpec.ofChange lamportSignSpec)) lamportSignCard

/-- THE TIED CARD OF 'speculumlaw08.LamportPublic'. -/
def lamportPublicCard : Claim7 := { stood := { row := lamportPublicRow, standIns := [], harness := (true, "4062e8f7e4a1b57097d91024cf3507a34cc1744671861a1ad81485569e487d13"), looks := false }, kinds := [], alts := [], laidByText := true, laidKinds := [.data, .data], laidTests := true, laidLooks := .later }
def LamportPublicCardSaid : Prop := Claim7.holds Tryd.pinned (.plain (OpenSpec.ofChange lamportPublicSpec)) lamportPublicCard

/-- THE TIED CARD OF 'speculumlaw08.LamportBytes'. -/
def lamportBytesCard : Claim7 := { stood := { row := lamportBytesRow, standIns := [], harness := (true, "4062e8f7e4a1b57097d91024cf3507a34cc1744671861a1ad81485569e487d13"), looks := false }, kinds := [], alts := [], laidByText := true, laidKinds := [.data, .data], laidTests := true, laidLooks := .later }
def LamportBytesCardSaid : Prop := Claim7.holds Tryd.pinned (.plain (OpenSpec.ofChange lamportBytesSpec)) lamportBytesCard

/-- THE SECOND FORM's CARD OF 'speculumlaw12.FramesTell'. -/
def framesTellUptoCard : Claim7 := { stood := { row := framesTellUptoRow, standIns := [], harness := (true, "4062e8f7e4a1b57097d91024cf3507a34cc1744671861a1ad81485569e487d13"), looks := false }, kinds := [], alts := [], laidByText := true, laidKinds := [.data, .data], laidTests := true, laidLooks := .later }
def FramesTellUptoCardSaid : Prop := Claim7.holds Tryd.pinned (.plain (OpenSpec.upto framesTellSpec)) framesTellUptoCard

/-- THE SECOND FORM's CARD OF 'speculumlaw12.FramesRow'. -/
def framesRowUptoCard : Claim7 := { stood := { row := framesRowUptoRow, standIns := [], harness := (true, "4062e8f7e4a1b57097d91024cf3507a34cc1744671861a1ad81485569e487d13"), looks := false }, kinds := [], alts := [], laidByText := true, laidKinds := [.data, .data], laidTests := true, laidLooks := .later }
def FramesRowUptoCardSaid : Prop := Claim7.holds Tryd.pinned (.plain (OpenSpec.upto framesRowSpec)) framesRowUptoCard

/-- THE SECOND FORM's CARD OF 'speculumlaw12.FramesTorn'. -/
def framesTornUptoCard : Claim7 := { stood := { row := framesTornUptoRow, standIns := [], harness := (true, "4062e8f7e4a1b57097d91024cf3507a34cc1744671861a1ad81485569e487d13"), looks := false }, kinds := [], alts := [], laidByText := true, laidKinds := [.data, .data], laidTests := true, laidLooks := .later }
def FramesTornUptoCardSaid : Prop := Claim7.holds Tryd.pinned (.plain (OpenSpec.upto framesTornSpec)) framesTornUptoCard

/-- THE SECOND FORM's CARD OF 'speculumlaw12.FramesLong'. -/
def framesLongUptoCard : Claim7 := { stood := { row := framesLongUptoRow, standIns := [], harness := (true, "4062e8f7e4a1b57097d91024cf3507a34cc1744671861a1ad81485569e487d13"), looks := false }, kinds := [], alts := [], laidByText := true, laidKinds := [.data, .data], laidTests := true, laidLooks := .later }
def FramesLongUptoCardSaid : Prop := Claim7.holds Tryd.pinned (.plain (OpenSpec.upto framesLongSpec)) framesLongUptoCard

/-- THE SECOND FORM's CARD OF 'speculumlaw08.LamportSign'. -/
def lamportSignUptoCard : Claim7 := { stood := { row := lamportSignUptoRow, standIns := [], harness := (true, "4062e8f7e4a1b57097d91024cf3507a34cc1744671861a1ad81485569e487d13"), looks := false }, kinds := [], alts := [], laidByText := true, laidKinds := [.data, .data], laidTests := true, laidLooks := .later }
def LamportSignUptoCardSaid : Prop := Claim7.holds Tryd.pinned (.plain (OpenSpec.upto lamportSignSpec)) lamportSignUptoCard

/-- THE SECOND FORM's CARD OF 'speculumlaw08.LamportPublic'. -/
def lamportPublicUptoCard : Claim7 := { stood := { row := lamportPublicUptoRow, standIns := [], harness := (true, "4062e8f7e4a1b57097d91024cf3507a34cc1744671861a1ad81485569e487d13"), looks := false }, kinds := [], alts := [], laidByText := true, laidKinds := [.data, .data], laidTests := true, laidLooks := .later }
def LamportPublicUptoCardSaid : Prop := Claim7.holds Tryd.pinned (.plain (OpenSpec.upto lamportPublicSpec)) lamportPublicUptoCard

/-- THE SECOND FORM's CARD OF 'speculumlaw08.LamportBytes'. -/
def lamportBytesUptoCard : Claim7 := { stood := { row := lamportBytesUptoRow, standIns := [], harness := (true, "4062e8f7e4a1b57097d91024cf3507a34cc1744671861a1ad81485569e487d13"), looks := false }, kinds := [], alts := [], laidByText := true, laidKinds := [.data, .data], laidTests := true, laidLooks := .later }
def LamportBytesUptoCardSaid : Prop := Claim7.holds Tryd.pinned (.plain (OpenSpec.upto lamportBytesSpec)) lamportBytesUptoCard
end Rows
end Go.Proofs.YtchpoggegdocpaaDoor
