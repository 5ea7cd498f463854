/-
  DERIVED. GIVEN WITH THE SEED: THE CARDS: each row of YtbpjlancjdbehaaDoorRows.lean that lists a variable, with what it lists TIED to the program's text (the seventh form; the later family's looks); each row that meets fmt, with fmt's text TOLD by the authors' own Lean function (tested against real Go, not proved from fmt's source: count such statements apart). THE CARD IS WHAT COUNTS. Prove the row's statement (the work); the ties are given (YtbpjlancjdbehaaDoorTie.lean); close each card by the builder's one call (the guide's Derived/Test/ToyasCard.lean, 'card_holds'). Laid BY PROGRAM, IN A SANDBOX (cutbox-door.mjs). By AI agents, Wed Nov 11 2026. No macro, syntax, notation, axiom, sorry.
-/
import Derived.Test.YtbpjlancjdbehaaDoorRows
import GoSem.ClaimSeven
namespace Go.Proofs.YtbpjlancjdbehaaDoor
namespace Rows

/-- THE TIED CARD OF 'speculumlaw14.TilesTell'. -/
def tilesTellCard : Claim7 := { stood := { row := tilesTellRow, standIns := [], harness := (true, "16cfaad08a6dbffae318ad82a98efd6652dafc2258d0b772eef587eff5893f74"), looks := true }, kinds := [], alts := [], laidByText := true, laidKinds := [.data, .data], laidTests := true, laidLooks := .later }
def TilesTellCardSaid : Prop := Claim7.holds Tryd.pinned (.plain (OpenSpec.ofChange tilesTellSpec)) tilesTellCard

/-- THE TIED CARD OF 'speculumlaw14.TilesFull'. -/
def tilesFullCard : Claim7 := { stood := { row := tilesFullRow, standIns := [], harness := (true, "16cfaad08a6dbffae318ad82a98efd6652dafc2258d0b772eef587eff5893f74"), looks := true }, kinds := [], alts := [], laidByText := true, laidKinds := [.data, .data], laidTests := true, laidLooks := .later }
def TilesFullCardSaid : Prop := Claim7.holds Tryd.pinned (.plain (OpenSpec.ofChange tilesFullSpec)) tilesFullCard

/-- THE TIED CARD OF 'speculumlaw14.TilesNone'. -/
def tilesNoneCard : Claim7 := { stood := { row := tilesNoneRow, standIns := [], harness := (true, "16cfaad08a6dbffae318ad82a98efd6652dafc2258d0b772eef587eff5893f74"), looks := true }, kinds := [], alts := [], laidByText := true, laidKinds := [.data, .data], laidTests := true, laidLooks := .later }
def TilesNoneCardSaid : Prop := Claim7.holds Tryd.pinned (.plain (OpenSpec.ofChange tilesNoneSpec)) tilesNoneCard

/-- THE TIED CARD OF 'speculumlaw14.TilesLater'. -/
def tilesLaterCard : Claim7 := { stood := { row := tilesLaterRow, standIns := [], harness := (true, "16cfaad08a6dbffae318ad82a98efd6652dafc2258d0b772eef587eff5893f74"), looks := true }, kinds := [], alts := [], laidByText := true, laidKinds := [.data, .data], laidTests := true, laidLooks := .later }
def TilesLaterCardSaid : Prop := Claim7.holds Tryd.pinned (.plain (OpenSpec.ofChange tilesLaterSpec)) tilesLaterCard

/-- THE TIED CARD OF 'speculumlaw14.TilesProve'. -/
def tilesProveCard : Claim7 := { stood := { row := tilesProveRow, standIns := [], harness := (true, "16cfaad08a6dbffae318ad82a98efd6652dafc2258d0b772eef587eff5893f74"), looks := true }, kinds := [], alts := [], laidByText := true, laidKinds := [.data, .data], laidTests := true, laidLooks := .later }
def TilesProveCardSaid : Prop := Claim7.holds Tryd.pinned (.plain (OpenSpec.ofChange tilesProveSpec)) tilesProveCard

/-- THE TIED CARD OF 'speculumlaw21.ServeTell'. -/
def serveTellCard : Claim7 := { stood := { row := serveTellRow, standIns := [], harness := (true, "16cfaad08a6dbffae318ad82a98efd6652dafc2258d0b772eef587eff5893f74"), looks := true }, kinds := [], alts := [], laidByText := true, laidKinds := [.data, .data], laidTests := true, laidLooks := .later }
def ServeTellCardSaid : Prop := Claim7.holds Tryd.pinned (.plain (OpenSpec.ofChange serveTellSpec)) serveTellCard

/-- THE TIED CARD OF 'speculumlaw21.ServeProves'. -/
def serveProvesCard : Claim7 := { stood := { row := serveProvesRow, standIns := [], harness := (true, "16cfaad08a6dbffae318ad82a98efd6652dafc2258d0b772eef587eff5893f74"), looks := true }, kinds := [], alts := [], laidByText := true, laidKinds := [.data, .data], laidTests := true, laidLooks := .later }
def ServeProvesCardSaid : Prop := Claim7.holds Tryd.pinned (.plain (OpenSpec.ofChange serveProvesSpec)) serveProvesCard

/-- THE SECOND FORM's CARD OF 'speculumlaw14.TilesTell'. -/
def tilesTellUptoCard : Claim7 := { stood := { row := tilesTellUptoRow, standIns := [], harness := (true, "16cfaad08a6dbffae318ad82a98efd6652dafc2258d0b772eef587eff5893f74"), looks := true }, kinds := [], alts := [], laidByText := true, laidKinds := [.data, .data], laidTests := true, laidLooks := .later }
def TilesTellUptoCardSaid : Prop := Claim7.holds Tryd.pinned (.plain (OpenSpec.upto tilesTellSpec)) tilesTellUptoCard

/-- THE SECOND FORM's CARD OF 'speculumlaw14.TilesFull'. -/
def tilesFullUptoCard : Claim7 := { stood := { row := tilesFullUptoRow, standIns := [], harness := (true, "16cfaad08a6dbffae318ad82a98efd6652dafc2258d0b772eef587eff5893f74"), looks := true }, kinds := [], alts := [], laidByText := true, laidKinds := [.data, .data], laidTests := true, laidLooks := .later }
def TilesFullUptoCardSaid : Prop := Claim7.holds Tryd.pinned (.plain (OpenSpec.upto tilesFullSpec)) tilesFullUptoCard

/-- THE SECOND FORM's CARD OF 'speculumlaw14.TilesNone'. -/
def tilesNoneUptoCard : Claim7 := { stood := { row := tilesNoneUptoRow, standIns := [], harness := (true, "16cfaad08a6dbffae318ad82a98efd6652dafc2258d0b772eef587eff5893f74"), looks := true }, kinds := [], alts := [], laidByText := true, laidKinds := [.data, .data], laidTests := true, laidLooks := .later }
def TilesNoneUptoCardSaid : Prop := Claim7.holds Tryd.pinned (.plain (OpenSpec.upto tilesNoneSpec)) tilesNoneUptoCard

/-- THE SECOND FORM's CARD OF 'speculumlaw14.TilesLater'. -/
def tilesLaterUptoCard : Claim7 := { stood := { row := tilesLaterUptoRow, standIns := [], harness := (true, "16cfaad08a6dbffae318ad82a98efd6652dafc2258d0b772eef587eff5893f74"), looks := true }, kinds := [], alts := [], laidByText := true, laidKinds := [.data, .data], laidTests := true, laidLooks := .later }
def TilesLaterUptoCardSaid : Prop := Claim7.holds Tryd.pinned (.plain (OpenSpec.upto tilesLaterSpec)) tilesLaterUptoCard

/-- THE SECOND FORM's CARD OF 'speculumlaw14.TilesProve'. -/
def tilesProveUptoCard : Claim7 := { stood := { row := tilesProveUptoRow, standIns := [], harness := (true, "16cfaad08a6dbffae318ad82a98efd6652dafc2258d0b772eef587eff5893f74"), looks := true }, kinds := [], alts := [], laidByText := true, laidKinds := [.data, .data], laidTests := true, laidLooks := .later }
def TilesProveUptoCardSaid : Prop := Claim7.holds Tryd.pinned (.plain (OpenSpec.upto tilesProveSpec)) tilesProveUptoCard

/-- THE SECOND FORM's CARD OF 'speculumlaw21.ServeTell'. -/
def serveTellUptoCard : Claim7 := { stood := { row := serveTellUptoRow, standIns := [], harness := (true, "16cfaad08a6dbffae318ad82a98efd6652dafc2258d0b772eef587eff5893f74"), looks := true }, kinds := [], alts := [], laidByText := true, laidKinds := [.data, .data], laidTests := true, laidLooks := .later }
def ServeTellUptoCardSaid : Prop := Claim7.holds Tryd.pinned (.plain (OpenSpec.upto serveTellSpec)) serveTellUptoCard

/-- THE SECOND FORM's CARD OF 'speculumlaw21.ServeProves'. -/
def serveProvesUptoCard : Claim7 := { stood := { row := serveProvesUptoRow, standIns := [], harness := (true, "16cfaad08a6dbffae318ad82a98efd6652dafc2258d0b772eef587eff5893f74"), looks := true }, kinds := [], alts := [], laidByText := true, laidKinds := [.data, .data], laidTests := true, laidLooks := .later }
def ServeProvesUptoCardSaid : Prop := Claim7.holds Tryd.pinned (.plain (OpenSpec.upto serveProvesSpec)) serveProvesUptoCard
end Rows
end Go.Proofs.YtbpjlancjdbehaaDoor
