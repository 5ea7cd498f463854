/-
  NARROWER THAN 'FOR EVERY INPUT', by the rows' own cells (each row's printed sentence says how): TilesTell: laid · TilesFull: laid · TilesNone: laid · TilesLater: laid · TilesProve: laid · ServeTell: laid · ServeProves: laid.
  DERIVED. THE GIVEN ROWS OF THIS SEAT. 7 by the template 'for every input the law returns true; each argument reads behind the call as it read before'; 0 by the template 'total and deterministic' (their statements: YtbpjlancjdbehaaDoorTotals.lean).
  GIVEN WITH THE SEED: the statements are not yours to turn. If you find one false, say at which input.
  Laid BY PROGRAM, IN A SANDBOX (cutbox-rows.mjs): the forced cells as the released guide's own fill.sh prints them over the translation a02c2e0f76b39883… (all of the seat's roots in one cut). By AI agents, Wed Nov 11 2026. No macro, syntax, notation, axiom, sorry.
-/
import Derived.Test.YtbpjlancjdbehaaDoorChecked
import GoSem.Claim
import GoSem.ClaimJoined
import GoSem.ClaimMapViews
import Derived.JoinedTies
import Derived.KernelRfl
namespace Go.Proofs.YtbpjlancjdbehaaDoor
/- THE CELL 'sum', in the pinned program and in every row, IS THE sha256 OF THE DUMP (.gsa) THAT YtbpjlancjdbehaaDoorProg.lean LOADS. Nothing in Lean hashes anything: it is a label: what it is worth is what the hold of that sum in a sandbox is worth. -/
noncomputable def Tryd.pinned : Pinned := { name := "ytbpjlancjdbehaadoor", sum := "a02c2e0f76b398835e476e0023e3a6eddd0a806468cb7be322608f80ee5057b0", checked := Tryd.checked }
namespace Rows
def none {H : Type} : Left H := { results := [], args := [] }

/- WHAT THE LISTED PACKAGE-LEVEL VARIABLES READ AS WHEN THE CALL BEGINS. Each datum BY PROGRAM (the guide's laid-datum.mjs) off the statement by which the dump's own 'gosem.cut.vars' lays the variable. In a bare row this is a premise. The card (YtbpjlancjdbehaaDoorCards.lean) ties it to the program's text. -/
def laid_speculum_sha_first {H : Type} : DataW H := .agg [.lit (.int .u32 1779033703), .lit (.int .u32 3144134277), .lit (.int .u32 1013904242), .lit (.int .u32 2773480762), .lit (.int .u32 1359893119), .lit (.int .u32 2600822924), .lit (.int .u32 528734635), .lit (.int .u32 1541459225)]
def laid_speculum_sha_rounds {H : Type} : DataW H := .agg [.lit (.int .u32 1116352408), .lit (.int .u32 1899447441), .lit (.int .u32 3049323471), .lit (.int .u32 3921009573), .lit (.int .u32 961987163), .lit (.int .u32 1508970993), .lit (.int .u32 2453635748), .lit (.int .u32 2870763221), .lit (.int .u32 3624381080), .lit (.int .u32 310598401), .lit (.int .u32 607225278), .lit (.int .u32 1426881987), .lit (.int .u32 1925078388), .lit (.int .u32 2162078206), .lit (.int .u32 2614888103), .lit (.int .u32 3248222580), .lit (.int .u32 3835390401), .lit (.int .u32 4022224774), .lit (.int .u32 264347078), .lit (.int .u32 604807628), .lit (.int .u32 770255983), .lit (.int .u32 1249150122), .lit (.int .u32 1555081692), .lit (.int .u32 1996064986), .lit (.int .u32 2554220882), .lit (.int .u32 2821834349), .lit (.int .u32 2952996808), .lit (.int .u32 3210313671), .lit (.int .u32 3336571891), .lit (.int .u32 3584528711), .lit (.int .u32 113926993), .lit (.int .u32 338241895), .lit (.int .u32 666307205), .lit (.int .u32 773529912), .lit (.int .u32 1294757372), .lit (.int .u32 1396182291), .lit (.int .u32 1695183700), .lit (.int .u32 1986661051), .lit (.int .u32 2177026350), .lit (.int .u32 2456956037), .lit (.int .u32 2730485921), .lit (.int .u32 2820302411), .lit (.int .u32 3259730800), .lit (.int .u32 3345764771), .lit (.int .u32 3516065817), .lit (.int .u32 3600352804), .lit (.int .u32 4094571909), .lit (.int .u32 275423344), .lit (.int .u32 430227734), .lit (.int .u32 506948616), .lit (.int .u32 659060556), .lit (.int .u32 883997877), .lit (.int .u32 958139571), .lit (.int .u32 1322822218), .lit (.int .u32 1537002063), .lit (.int .u32 1747873779), .lit (.int .u32 1955562222), .lit (.int .u32 2024104815), .lit (.int .u32 2227730452), .lit (.int .u32 2361852424), .lit (.int .u32 2428436474), .lit (.int .u32 2756734187), .lit (.int .u32 3204031479), .lit (.int .u32 3329325298)]

/-- 'speculumlaw14.TilesTell': WHATEVER THE INPUT: true; the input reads as it did. -/
def tilesTellSpec : ChangeSpec := { name := "tilesTell", fn := fun _ => fun
  | [d1, d2] => { results := [.lit (.bool true)], args := [d1, d2] }
  | _ => none }
def tilesTellRow : OpenClaim := { program := "ytbpjlancjdbehaadoor", sum := "a02c2e0f76b398835e476e0023e3a6eddd0a806468cb7be322608f80ee5057b0", func := "speculum/speculumlaw14.TilesTell", spec := "tilesTell", inPlace := ["internal/abi.NoEscape", "internal/bytealg.MakeNoZero"], unfollowed := true, recurses := true, named := ["speculum/sha.first", "speculum/sha.rounds"], plainKeys := false, apart := false, laid := [("speculum/sha.first", laid_speculum_sha_first), ("speculum/sha.rounds", laid_speculum_sha_rounds)] }
def TilesTellSaid : Prop := tilesTellRow.holds Tryd.pinned (OpenSpec.ofChange tilesTellSpec)

/-- ITS FALSE NEIGHBOUR: 'it returns false'. Refute it at one input. -/
def tilesTellWrong : ChangeSpec := { name := "tilesTell", fn := fun _ => fun
  | [d1, d2] => { results := [.lit (.bool false)], args := [d1, d2] }
  | _ => none }
def TilesTellWrongFalsely : Prop := tilesTellRow.holds Tryd.pinned (OpenSpec.ofChange tilesTellWrong)

/-- 'speculumlaw14.TilesFull': WHATEVER THE INPUT: true; the input reads as it did. -/
def tilesFullSpec : ChangeSpec := { name := "tilesFull", fn := fun _ => fun
  | [d1, d2] => { results := [.lit (.bool true)], args := [d1, d2] }
  | _ => none }
def tilesFullRow : OpenClaim := { program := "ytbpjlancjdbehaadoor", sum := "a02c2e0f76b398835e476e0023e3a6eddd0a806468cb7be322608f80ee5057b0", func := "speculum/speculumlaw14.TilesFull", spec := "tilesFull", inPlace := ["internal/abi.NoEscape", "internal/bytealg.MakeNoZero"], unfollowed := true, recurses := true, named := ["speculum/sha.first", "speculum/sha.rounds"], plainKeys := false, apart := false, laid := [("speculum/sha.first", laid_speculum_sha_first), ("speculum/sha.rounds", laid_speculum_sha_rounds)] }
def TilesFullSaid : Prop := tilesFullRow.holds Tryd.pinned (OpenSpec.ofChange tilesFullSpec)

/-- ITS FALSE NEIGHBOUR: 'it returns false'. Refute it at one input. -/
def tilesFullWrong : ChangeSpec := { name := "tilesFull", fn := fun _ => fun
  | [d1, d2] => { results := [.lit (.bool false)], args := [d1, d2] }
  | _ => none }
def TilesFullWrongFalsely : Prop := tilesFullRow.holds Tryd.pinned (OpenSpec.ofChange tilesFullWrong)

/-- 'speculumlaw14.TilesNone': WHATEVER THE INPUT: true; the input reads as it did. -/
def tilesNoneSpec : ChangeSpec := { name := "tilesNone", fn := fun _ => fun
  | [d1, d2] => { results := [.lit (.bool true)], args := [d1, d2] }
  | _ => none }
def tilesNoneRow : OpenClaim := { program := "ytbpjlancjdbehaadoor", sum := "a02c2e0f76b398835e476e0023e3a6eddd0a806468cb7be322608f80ee5057b0", func := "speculum/speculumlaw14.TilesNone", spec := "tilesNone", inPlace := ["internal/abi.NoEscape", "internal/bytealg.MakeNoZero", "maps.clone"], unfollowed := true, recurses := true, named := ["speculum/sha.first", "speculum/sha.rounds"], plainKeys := false, apart := false, laid := [("speculum/sha.first", laid_speculum_sha_first), ("speculum/sha.rounds", laid_speculum_sha_rounds)] }
def TilesNoneSaid : Prop := tilesNoneRow.holds Tryd.pinned (OpenSpec.ofChange tilesNoneSpec)

/-- ITS FALSE NEIGHBOUR: 'it returns false'. Refute it at one input. -/
def tilesNoneWrong : ChangeSpec := { name := "tilesNone", fn := fun _ => fun
  | [d1, d2] => { results := [.lit (.bool false)], args := [d1, d2] }
  | _ => none }
def TilesNoneWrongFalsely : Prop := tilesNoneRow.holds Tryd.pinned (OpenSpec.ofChange tilesNoneWrong)

/-- 'speculumlaw14.TilesLater': WHATEVER THE INPUT: true; the input reads as it did. -/
def tilesLaterSpec : ChangeSpec := { name := "tilesLater", fn := fun _ => fun
  | [d1, d2, d3] => { results := [.lit (.bool true)], args := [d1, d2, d3] }
  | _ => none }
def tilesLaterRow : OpenClaim := { program := "ytbpjlancjdbehaadoor", sum := "a02c2e0f76b398835e476e0023e3a6eddd0a806468cb7be322608f80ee5057b0", func := "speculum/speculumlaw14.TilesLater", spec := "tilesLater", inPlace := ["internal/abi.NoEscape", "internal/bytealg.MakeNoZero", "maps.clone"], unfollowed := true, recurses := true, named := ["speculum/sha.first", "speculum/sha.rounds"], plainKeys := false, apart := false, laid := [("speculum/sha.first", laid_speculum_sha_first), ("speculum/sha.rounds", laid_speculum_sha_rounds)] }
def TilesLaterSaid : Prop := tilesLaterRow.holds Tryd.pinned (OpenSpec.ofChange tilesLaterSpec)

/-- ITS FALSE NEIGHBOUR: 'it returns false'. Refute it at one input. -/
def tilesLaterWrong : ChangeSpec := { name := "tilesLater", fn := fun _ => fun
  | [d1, d2, d3] => { results := [.lit (.bool false)], args := [d1, d2, d3] }
  | _ => none }
def TilesLaterWrongFalsely : Prop := tilesLaterRow.holds Tryd.pinned (OpenSpec.ofChange tilesLaterWrong)

/-- 'speculumlaw14.TilesProve': WHATEVER THE INPUT: true; the input reads as it did. -/
def tilesProveSpec : ChangeSpec := { name := "tilesProve", fn := fun _ => fun
  | [d1, d2, d3] => { results := [.lit (.bool true)], args := [d1, d2, d3] }
  | _ => none }
def tilesProveRow : OpenClaim := { program := "ytbpjlancjdbehaadoor", sum := "a02c2e0f76b398835e476e0023e3a6eddd0a806468cb7be322608f80ee5057b0", func := "speculum/speculumlaw14.TilesProve", spec := "tilesProve", inPlace := ["internal/abi.NoEscape", "internal/bytealg.MakeNoZero"], unfollowed := true, recurses := true, named := ["speculum/sha.first", "speculum/sha.rounds"], plainKeys := false, apart := false, laid := [("speculum/sha.first", laid_speculum_sha_first), ("speculum/sha.rounds", laid_speculum_sha_rounds)] }
def TilesProveSaid : Prop := tilesProveRow.holds Tryd.pinned (OpenSpec.ofChange tilesProveSpec)

/-- ITS FALSE NEIGHBOUR: 'it returns false'. Refute it at one input. -/
def tilesProveWrong : ChangeSpec := { name := "tilesProve", fn := fun _ => fun
  | [d1, d2, d3] => { results := [.lit (.bool false)], args := [d1, d2, d3] }
  | _ => none }
def TilesProveWrongFalsely : Prop := tilesProveRow.holds Tryd.pinned (OpenSpec.ofChange tilesProveWrong)

/-- 'speculumlaw21.ServeTell': WHATEVER THE INPUT: true; the input reads as it did. -/
def serveTellSpec : ChangeSpec := { name := "serveTell", fn := fun _ => fun
  | [d1, d2, d3] => { results := [.lit (.bool true)], args := [d1, d2, d3] }
  | _ => none }
def serveTellRow : OpenClaim := { program := "ytbpjlancjdbehaadoor", sum := "a02c2e0f76b398835e476e0023e3a6eddd0a806468cb7be322608f80ee5057b0", func := "speculum/speculumlaw21.ServeTell", spec := "serveTell", inPlace := ["internal/abi.NoEscape", "internal/bytealg.MakeNoZero"], unfollowed := true, recurses := true, named := ["speculum/sha.first", "speculum/sha.rounds"], plainKeys := false, apart := false, laid := [("speculum/sha.first", laid_speculum_sha_first), ("speculum/sha.rounds", laid_speculum_sha_rounds)] }
def ServeTellSaid : Prop := serveTellRow.holds Tryd.pinned (OpenSpec.ofChange serveTellSpec)

/-- ITS FALSE NEIGHBOUR: 'it returns false'. Refute it at one input. -/
def serveTellWrong : ChangeSpec := { name := "serveTell", fn := fun _ => fun
  | [d1, d2, d3] => { results := [.lit (.bool false)], args := [d1, d2, d3] }
  | _ => none }
def ServeTellWrongFalsely : Prop := serveTellRow.holds Tryd.pinned (OpenSpec.ofChange serveTellWrong)

/-- 'speculumlaw21.ServeProves': WHATEVER THE INPUT: true; the input reads as it did. -/
def serveProvesSpec : ChangeSpec := { name := "serveProves", fn := fun _ => fun
  | [d1, d2, d3] => { results := [.lit (.bool true)], args := [d1, d2, d3] }
  | _ => none }
def serveProvesRow : OpenClaim := { program := "ytbpjlancjdbehaadoor", sum := "a02c2e0f76b398835e476e0023e3a6eddd0a806468cb7be322608f80ee5057b0", func := "speculum/speculumlaw21.ServeProves", spec := "serveProves", inPlace := ["internal/abi.NoEscape", "internal/bytealg.MakeNoZero"], unfollowed := true, recurses := true, named := ["speculum/sha.first", "speculum/sha.rounds"], plainKeys := false, apart := false, laid := [("speculum/sha.first", laid_speculum_sha_first), ("speculum/sha.rounds", laid_speculum_sha_rounds)] }
def ServeProvesSaid : Prop := serveProvesRow.holds Tryd.pinned (OpenSpec.ofChange serveProvesSpec)

/-- ITS FALSE NEIGHBOUR: 'it returns false'. Refute it at one input. -/
def serveProvesWrong : ChangeSpec := { name := "serveProves", fn := fun _ => fun
  | [d1, d2, d3] => { results := [.lit (.bool false)], args := [d1, d2, d3] }
  | _ => none }
def ServeProvesWrongFalsely : Prop := serveProvesRow.holds Tryd.pinned (OpenSpec.ofChange serveProvesWrong)

/- THE SECOND FORM. 'bulk': how many values and letters a reading holds, each counted each time it is reached (what is shared counts as often as it is met; a slice's spare places count too). A statement '..UptoSaid' is the law's where the arguments, and the package variables that the reading takes, are together of bulk at most 1048576: NARROWER than '..Said'. Prove '..Said' where nothing that the law and all that it calls make is longer than what came in: it says more and counts as full. Else prove '..UptoSaid'. A law counts once. -/
mutual
def uptoBulk {H : Type} : DataW H → Nat
  | .lit (.string bytes) => bytes.length + 1
  | .lit _ => 1
  | .nil => 1
  | .ptr d => uptoBulk d + 1
  | .slice elems spare => uptoBulkAll elems + uptoBulkAll spare + 1
  | .agg parts => uptoBulkAll parts + 1
  | .iface _ d => uptoBulk d + 1
  | .map entries => uptoBulkEntries entries + 1
  | .held _ => 1
def uptoBulkAll {H : Type} : List (DataW H) → Nat
  | [] => 0
  | d :: r => uptoBulk d + uptoBulkAll r
def uptoBulkEntries {H : Type} : List (Lit × DataW H) → Nat
  | [] => 0
  | x :: r => uptoBulkEntry x + uptoBulkEntries r
def uptoBulkEntry {H : Type} : Lit × DataW H → Nat
  | (.string bytes, d) => bytes.length + uptoBulk d + 1
  | (_, d) => uptoBulk d + 1
 end
def uptoSmall : (H : Type) → List (DataW H) → Bool := fun _ ds => decide (uptoBulkAll ds ≤ 1048576)
def OpenSpec.upto (s : _root_.Go.ChangeSpec) : _root_.Go.OpenSpec := { _root_.Go.OpenSpec.ofChange s with cond := some uptoSmall }

/-- 'speculumlaw14.TilesTell', WHERE WHAT IT READS IS OF BULK AT MOST 1048576: true; the input reads as it did. -/
def tilesTellUptoRow : OpenClaim := { program := "ytbpjlancjdbehaadoor", sum := "a02c2e0f76b398835e476e0023e3a6eddd0a806468cb7be322608f80ee5057b0", func := "speculum/speculumlaw14.TilesTell", spec := "tilesTell", inPlace := ["internal/abi.NoEscape", "internal/bytealg.MakeNoZero"], unfollowed := true, recurses := true, named := ["speculum/sha.first", "speculum/sha.rounds"], plainKeys := false, apart := false, laid := [("speculum/sha.first", laid_speculum_sha_first), ("speculum/sha.rounds", laid_speculum_sha_rounds)], narrowed := true }
def TilesTellUptoSaid : Prop := tilesTellUptoRow.holds Tryd.pinned (OpenSpec.upto tilesTellSpec)

/-- 'speculumlaw14.TilesFull', WHERE WHAT IT READS IS OF BULK AT MOST 1048576: true; the input reads as it did. -/
def tilesFullUptoRow : OpenClaim := { program := "ytbpjlancjdbehaadoor", sum := "a02c2e0f76b398835e476e0023e3a6eddd0a806468cb7be322608f80ee5057b0", func := "speculum/speculumlaw14.TilesFull", spec := "tilesFull", inPlace := ["internal/abi.NoEscape", "internal/bytealg.MakeNoZero"], unfollowed := true, recurses := true, named := ["speculum/sha.first", "speculum/sha.rounds"], plainKeys := false, apart := false, laid := [("speculum/sha.first", laid_speculum_sha_first), ("speculum/sha.rounds", laid_speculum_sha_rounds)], narrowed := true }
def TilesFullUptoSaid : Prop := tilesFullUptoRow.holds Tryd.pinned (OpenSpec.upto tilesFullSpec)

/-- 'speculumlaw14.TilesNone', WHERE WHAT IT READS IS OF BULK AT MOST 1048576: true; the input reads as it did. -/
def tilesNoneUptoRow : OpenClaim := { program := "ytbpjlancjdbehaadoor", sum := "a02c2e0f76b398835e476e0023e3a6eddd0a806468cb7be322608f80ee5057b0", func := "speculum/speculumlaw14.TilesNone", spec := "tilesNone", inPlace := ["internal/abi.NoEscape", "internal/bytealg.MakeNoZero", "maps.clone"], unfollowed := true, recurses := true, named := ["speculum/sha.first", "speculum/sha.rounds"], plainKeys := false, apart := false, laid := [("speculum/sha.first", laid_speculum_sha_first), ("speculum/sha.rounds", laid_speculum_sha_rounds)], narrowed := true }
def TilesNoneUptoSaid : Prop := tilesNoneUptoRow.holds Tryd.pinned (OpenSpec.upto tilesNoneSpec)

/-- 'speculumlaw14.TilesLater', WHERE WHAT IT READS IS OF BULK AT MOST 1048576: true; the input reads as it did. -/
def tilesLaterUptoRow : OpenClaim := { program := "ytbpjlancjdbehaadoor", sum := "a02c2e0f76b398835e476e0023e3a6eddd0a806468cb7be322608f80ee5057b0", func := "speculum/speculumlaw14.TilesLater", spec := "tilesLater", inPlace := ["internal/abi.NoEscape", "internal/bytealg.MakeNoZero", "maps.clone"], unfollowed := true, recurses := true, named := ["speculum/sha.first", "speculum/sha.rounds"], plainKeys := false, apart := false, laid := [("speculum/sha.first", laid_speculum_sha_first), ("speculum/sha.rounds", laid_speculum_sha_rounds)], narrowed := true }
def TilesLaterUptoSaid : Prop := tilesLaterUptoRow.holds Tryd.pinned (OpenSpec.upto tilesLaterSpec)

/-- 'speculumlaw14.TilesProve', WHERE WHAT IT READS IS OF BULK AT MOST 1048576: true; the input reads as it did. -/
def tilesProveUptoRow : OpenClaim := { program := "ytbpjlancjdbehaadoor", sum := "a02c2e0f76b398835e476e0023e3a6eddd0a806468cb7be322608f80ee5057b0", func := "speculum/speculumlaw14.TilesProve", spec := "tilesProve", inPlace := ["internal/abi.NoEscape", "internal/bytealg.MakeNoZero"], unfollowed := true, recurses := true, named := ["speculum/sha.first", "speculum/sha.rounds"], plainKeys := false, apart := false, laid := [("speculum/sha.first", laid_speculum_sha_first), ("speculum/sha.rounds", laid_speculum_sha_rounds)], narrowed := true }
def TilesProveUptoSaid : Prop := tilesProveUptoRow.holds Tryd.pinned (OpenSpec.upto tilesProveSpec)

/-- 'speculumlaw21.ServeTell', WHERE WHAT IT READS IS OF BULK AT MOST 1048576: true; the input reads as it did. -/
def serveTellUptoRow : OpenClaim := { program := "ytbpjlancjdbehaadoor", sum := "a02c2e0f76b398835e476e0023e3a6eddd0a806468cb7be322608f80ee5057b0", func := "speculum/speculumlaw21.ServeTell", spec := "serveTell", inPlace := ["internal/abi.NoEscape", "internal/bytealg.MakeNoZero"], unfollowed := true, recurses := true, named := ["speculum/sha.first", "speculum/sha.rounds"], plainKeys := false, apart := false, laid := [("speculum/sha.first", laid_speculum_sha_first), ("speculum/sha.rounds", laid_speculum_sha_rounds)], narrowed := true }
def ServeTellUptoSaid : Prop := serveTellUptoRow.holds Tryd.pinned (OpenSpec.upto serveTellSpec)

/-- 'speculumlaw21.ServeProves', WHERE WHAT IT READS IS OF BULK AT MOST 1048576: true; the input reads as it did. -/
def serveProvesUptoRow : OpenClaim := { program := "ytbpjlancjdbehaadoor", sum := "a02c2e0f76b398835e476e0023e3a6eddd0a806468cb7be322608f80ee5057b0", func := "speculum/speculumlaw21.ServeProves", spec := "serveProves", inPlace := ["internal/abi.NoEscape", "internal/bytealg.MakeNoZero"], unfollowed := true, recurses := true, named := ["speculum/sha.first", "speculum/sha.rounds"], plainKeys := false, apart := false, laid := [("speculum/sha.first", laid_speculum_sha_first), ("speculum/sha.rounds", laid_speculum_sha_rounds)], narrowed := true }
def ServeProvesUptoSaid : Prop := serveProvesUptoRow.holds Tryd.pinned (OpenSpec.upto serveProvesSpec)

end Rows
end Go.Proofs.YtbpjlancjdbehaaDoor
