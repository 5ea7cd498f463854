/-
  NARROWER THAN 'FOR EVERY INPUT', by the rows' own cells (each row's printed sentence says how): FramesTell: laid · FramesRow: laid · FramesTorn: laid · FramesLong: laid · LamportSign: laid · LamportPublic: laid · LamportBytes: laid.
  DERIVED. THE GIVEN ROWS OF THIS SEAT. 7 by the template 'for every input the law returns true; each argument reads behind the call as it read before'; 0 by the template 'total and deterministic' (their statements: YtchpoggegdocpaaDoorTotals.lean).
  GIVEN WITH THE SEED: the statements are not yours to turn. If you find one false, say at which input.
  Laid BY PROGRAM, IN A SANDBOX (cutbox-rows.mjs): the forced cells as the released guide's own fill.sh prints them over the translation e66bb64f00882ca1… (all of the seat's roots in one cut). By AI agents, Wed Nov 11 2026. No macro, syntax, notation, axiom, sorry.
-/
import Derived.Test.YtchpoggegdocpaaDoorChecked
import GoSem.Claim
import GoSem.ClaimJoined
import GoSem.ClaimMapViews
import Derived.JoinedTies
import Derived.KernelRfl
namespace Go.Proofs.YtchpoggegdocpaaDoor
/- THE CELL 'sum', in the pinned program and in every row, IS THE sha256 OF THE DUMP (.gsa) THAT YtchpoggegdocpaaDoorProg.lean LOADS. Nothing in Lean hashes anything: it is a label: what it is worth is what the hold of that sum in a sandbox is worth. -/
noncomputable def Tryd.pinned : Pinned := { name := "ytchpoggegdocpaadoor", sum := "e66bb64f00882ca17f2bfad3995477a51de60dc78c54d7dd091d6652108b214b", checked := Tryd.checked }
namespace Rows
def none {H : Type} : Left H := { results := [], args := [] }

/- WHAT THE LISTED PACKAGE-LEVEL VARIABLES READ AS WHEN THE CALL BEGINS. Each datum BY PROGRAM (the guide's laid-datum.mjs) off the statement by which the dump's own 'gosem.cut.vars' lays the variable. In a bare row this is a premise. The card (YtchpoggegdocpaaDoorCards.lean) ties it to the program's text. -/
def laid_speculum_sha_first {H : Type} : DataW H := .agg [.lit (.int .u32 1779033703), .lit (.int .u32 3144134277), .lit (.int .u32 1013904242), .lit (.int .u32 2773480762), .lit (.int .u32 1359893119), .lit (.int .u32 2600822924), .lit (.int .u32 528734635), .lit (.int .u32 1541459225)]
def laid_speculum_sha_rounds {H : Type} : DataW H := .agg [.lit (.int .u32 1116352408), .lit (.int .u32 1899447441), .lit (.int .u32 3049323471), .lit (.int .u32 3921009573), .lit (.int .u32 961987163), .lit (.int .u32 1508970993), .lit (.int .u32 2453635748), .lit (.int .u32 2870763221), .lit (.int .u32 3624381080), .lit (.int .u32 310598401), .lit (.int .u32 607225278), .lit (.int .u32 1426881987), .lit (.int .u32 1925078388), .lit (.int .u32 2162078206), .lit (.int .u32 2614888103), .lit (.int .u32 3248222580), .lit (.int .u32 3835390401), .lit (.int .u32 4022224774), .lit (.int .u32 264347078), .lit (.int .u32 604807628), .lit (.int .u32 770255983), .lit (.int .u32 1249150122), .lit (.int .u32 1555081692), .lit (.int .u32 1996064986), .lit (.int .u32 2554220882), .lit (.int .u32 2821834349), .lit (.int .u32 2952996808), .lit (.int .u32 3210313671), .lit (.int .u32 3336571891), .lit (.int .u32 3584528711), .lit (.int .u32 113926993), .lit (.int .u32 338241895), .lit (.int .u32 666307205), .lit (.int .u32 773529912), .lit (.int .u32 1294757372), .lit (.int .u32 1396182291), .lit (.int .u32 1695183700), .lit (.int .u32 1986661051), .lit (.int .u32 2177026350), .lit (.int .u32 2456956037), .lit (.int .u32 2730485921), .lit (.int .u32 2820302411), .lit (.int .u32 3259730800), .lit (.int .u32 3345764771), .lit (.int .u32 3516065817), .lit (.int .u32 3600352804), .lit (.int .u32 4094571909), .lit (.int .u32 275423344), .lit (.int .u32 430227734), .lit (.int .u32 506948616), .lit (.int .u32 659060556), .lit (.int .u32 883997877), .lit (.int .u32 958139571), .lit (.int .u32 1322822218), .lit (.int .u32 1537002063), .lit (.int .u32 1747873779), .lit (.int .u32 1955562222), .lit (.int .u32 2024104815), .lit (.int .u32 2227730452), .lit (.int .u32 2361852424), .lit (.int .u32 2428436474), .lit (.int .u32 2756734187), .lit (.int .u32 3204031479), .lit (.int .u32 3329325298)]

/-- 'speculumlaw12.FramesTell': WHATEVER THE INPUT: true; the input reads as it did. -/
def framesTellSpec : ChangeSpec := { name := "framesTell", fn := fun _ => fun
  | [d1, d2] => { results := [.lit (.bool true)], args := [d1, d2] }
  | _ => none }
def framesTellRow : OpenClaim := { program := "ytchpoggegdocpaadoor", sum := "e66bb64f00882ca17f2bfad3995477a51de60dc78c54d7dd091d6652108b214b", func := "speculum/speculumlaw12.FramesTell", spec := "framesTell", inPlace := ["internal/abi.NoEscape", "internal/bytealg.MakeNoZero"], named := ["speculum/sha.first", "speculum/sha.rounds"], apart := false, laid := [("speculum/sha.first", laid_speculum_sha_first), ("speculum/sha.rounds", laid_speculum_sha_rounds)] }
def FramesTellSaid : Prop := framesTellRow.holds Tryd.pinned (OpenSpec.ofChange framesTellSpec)

/-- ITS FALSE NEIGHBOUR: 'it returns false'. Refute it at one input. -/
def framesTellWrong : ChangeSpec := { name := "framesTell", fn := fun _ => fun
  | [d1, d2] => { results := [.lit (.bool false)], args := [d1, d2] }
  | _ => none }
def FramesTellWrongFalsely : Prop := framesTellRow.holds Tryd.pinned (OpenSpec.ofChange framesTellWrong)

/-- 'speculumlaw12.FramesRow': WHATEVER THE INPUT: true; the input reads as it did. -/
def framesRowSpec : ChangeSpec := { name := "framesRow", fn := fun _ => fun
  | [d1, d2, d3] => { results := [.lit (.bool true)], args := [d1, d2, d3] }
  | _ => none }
def framesRowRow : OpenClaim := { program := "ytchpoggegdocpaadoor", sum := "e66bb64f00882ca17f2bfad3995477a51de60dc78c54d7dd091d6652108b214b", func := "speculum/speculumlaw12.FramesRow", spec := "framesRow", inPlace := ["internal/abi.NoEscape", "internal/bytealg.MakeNoZero"], named := ["speculum/sha.first", "speculum/sha.rounds"], apart := false, laid := [("speculum/sha.first", laid_speculum_sha_first), ("speculum/sha.rounds", laid_speculum_sha_rounds)] }
def FramesRowSaid : Prop := framesRowRow.holds Tryd.pinned (OpenSpec.ofChange framesRowSpec)

/-- ITS FALSE NEIGHBOUR: 'it returns false'. Refute it at one input. -/
def framesRowWrong : ChangeSpec := { name := "framesRow", fn := fun _ => fun
  | [d1, d2, d3] => { results := [.lit (.bool false)], args := [d1, d2, d3] }
  | _ => none }
def FramesRowWrongFalsely : Prop := framesRowRow.holds Tryd.pinned (OpenSpec.ofChange framesRowWrong)

/-- 'speculumlaw12.FramesTorn': WHATEVER THE INPUT: true; the input reads as it did. -/
def framesTornSpec : ChangeSpec := { name := "framesTorn", fn := fun _ => fun
  | [d1, d2, d3] => { results := [.lit (.bool true)], args := [d1, d2, d3] }
  | _ => none }
def framesTornRow : OpenClaim := { program := "ytchpoggegdocpaadoor", sum := "e66bb64f00882ca17f2bfad3995477a51de60dc78c54d7dd091d6652108b214b", func := "speculum/speculumlaw12.FramesTorn", spec := "framesTorn", inPlace := ["internal/abi.NoEscape", "internal/bytealg.MakeNoZero"], named := ["speculum/sha.first", "speculum/sha.rounds"], apart := false, laid := [("speculum/sha.first", laid_speculum_sha_first), ("speculum/sha.rounds", laid_speculum_sha_rounds)] }
def FramesTornSaid : Prop := framesTornRow.holds Tryd.pinned (OpenSpec.ofChange framesTornSpec)

/-- ITS FALSE NEIGHBOUR: 'it returns false'. Refute it at one input. -/
def framesTornWrong : ChangeSpec := { name := "framesTorn", fn := fun _ => fun
  | [d1, d2, d3] => { results := [.lit (.bool false)], args := [d1, d2, d3] }
  | _ => none }
def FramesTornWrongFalsely : Prop := framesTornRow.holds Tryd.pinned (OpenSpec.ofChange framesTornWrong)

/-- 'speculumlaw12.FramesLong': WHATEVER THE INPUT: true; the input reads as it did. -/
def framesLongSpec : ChangeSpec := { name := "framesLong", fn := fun _ => fun
  | [d] => { results := [.lit (.bool true)], args := [d] }
  | _ => none }
def framesLongRow : OpenClaim := { program := "ytchpoggegdocpaadoor", sum := "e66bb64f00882ca17f2bfad3995477a51de60dc78c54d7dd091d6652108b214b", func := "speculum/speculumlaw12.FramesLong", spec := "framesLong", inPlace := ["internal/abi.NoEscape", "internal/bytealg.MakeNoZero"], named := ["speculum/sha.first", "speculum/sha.rounds"], apart := false, laid := [("speculum/sha.first", laid_speculum_sha_first), ("speculum/sha.rounds", laid_speculum_sha_rounds)] }
def FramesLongSaid : Prop := framesLongRow.holds Tryd.pinned (OpenSpec.ofChange framesLongSpec)

/-- ITS FALSE NEIGHBOUR: 'it returns false'. Refute it at one input. -/
def framesLongWrong : ChangeSpec := { name := "framesLong", fn := fun _ => fun
  | [d] => { results := [.lit (.bool false)], args := [d] }
  | _ => none }
def FramesLongWrongFalsely : Prop := framesLongRow.holds Tryd.pinned (OpenSpec.ofChange framesLongWrong)

/-- 'speculumlaw08.LamportSign': WHATEVER THE INPUT: true; the input reads as it did. -/
def lamportSignSpec : ChangeSpec := { name := "lamportSign", fn := fun _ => fun
  | [d1, d2, d3] => { results := [.lit (.bool true)], args := [d1, d2, d3] }
  | _ => none }
def lamportSignRow : OpenClaim := { program := "ytchpoggegdocpaadoor", sum := "e66bb64f00882ca17f2bfad3995477a51de60dc78c54d7dd091d6652108b214b", func := "speculum/speculumlaw08.LamportSign", spec := "lamportSign", inPlace := ["internal/abi.NoEscape", "internal/bytealg.MakeNoZero"], recurses := true, named := ["speculum/sha.first", "speculum/sha.rounds"], apart := false, laid := [("speculum/sha.first", laid_speculum_sha_first), ("speculum/sha.rounds", laid_speculum_sha_rounds)] }
def LamportSignSaid : Prop := lamportSignRow.holds Tryd.pinned (OpenSpec.ofChange lamportSignSpec)

/-- ITS FALSE NEIGHBOUR: 'it returns false'. Refute it at one input. -/
def lamportSignWrong : ChangeSpec := { name := "lamportSign", fn := fun _ => fun
  | [d1, d2, d3] => { results := [.lit (.bool false)], args := [d1, d2, d3] }
  | _ => none }
def LamportSignWrongFalsely : Prop := lamportSignRow.holds Tryd.pinned (OpenSpec.ofChange lamportSignWrong)

/-- 'speculumlaw08.LamportPublic': WHATEVER THE INPUT: true; the input reads as it did. -/
def lamportPublicSpec : ChangeSpec := { name := "lamportPublic", fn := fun _ => fun
  | [d1, d2, d3] => { results := [.lit (.bool true)], args := [d1, d2, d3] }
  | _ => none }
def lamportPublicRow : OpenClaim := { program := "ytchpoggegdocpaadoor", sum := "e66bb64f00882ca17f2bfad3995477a51de60dc78c54d7dd091d6652108b214b", func := "speculum/speculumlaw08.LamportPublic", spec := "lamportPublic", inPlace := ["internal/abi.NoEscape", "internal/bytealg.MakeNoZero"], recurses := true, named := ["speculum/sha.first", "speculum/sha.rounds"], apart := false, laid := [("speculum/sha.first", laid_speculum_sha_first), ("speculum/sha.rounds", laid_speculum_sha_rounds)] }
def LamportPublicSaid : Prop := lamportPublicRow.holds Tryd.pinned (OpenSpec.ofChange lamportPublicSpec)

/-- ITS FALSE NEIGHBOUR: 'it returns false'. Refute it at one input. -/
def lamportPublicWrong : ChangeSpec := { name := "lamportPublic", fn := fun _ => fun
  | [d1, d2, d3] => { results := [.lit (.bool false)], args := [d1, d2, d3] }
  | _ => none }
def LamportPublicWrongFalsely : Prop := lamportPublicRow.holds Tryd.pinned (OpenSpec.ofChange lamportPublicWrong)

/-- 'speculumlaw08.LamportBytes': WHATEVER THE INPUT: true; the input reads as it did. -/
def lamportBytesSpec : ChangeSpec := { name := "lamportBytes", fn := fun _ => fun
  | [d1, d2] => { results := [.lit (.bool true)], args := [d1, d2] }
  | _ => none }
def lamportBytesRow : OpenClaim := { program := "ytchpoggegdocpaadoor", sum := "e66bb64f00882ca17f2bfad3995477a51de60dc78c54d7dd091d6652108b214b", func := "speculum/speculumlaw08.LamportBytes", spec := "lamportBytes", inPlace := ["internal/abi.NoEscape", "internal/bytealg.MakeNoZero"], named := ["speculum/sha.first", "speculum/sha.rounds"], apart := false, laid := [("speculum/sha.first", laid_speculum_sha_first), ("speculum/sha.rounds", laid_speculum_sha_rounds)] }
def LamportBytesSaid : Prop := lamportBytesRow.holds Tryd.pinned (OpenSpec.ofChange lamportBytesSpec)

/-- ITS FALSE NEIGHBOUR: 'it returns false'. Refute it at one input. -/
def lamportBytesWrong : ChangeSpec := { name := "lamportBytes", fn := fun _ => fun
  | [d1, d2] => { results := [.lit (.bool false)], args := [d1, d2] }
  | _ => none }
def LamportBytesWrongFalsely : Prop := lamportBytesRow.holds Tryd.pinned (OpenSpec.ofChange lamportBytesWrong)

/- THE SECOND FORM. 'bulk': how many values and letters a reading holds, each counted each time it is reached (what is shared counts as often as it is met; a slice's spare places count too). A statement '..UptoSaid' is the law's where the arguments, and the package variables that the reading takes, are together of bulk at most 1048576: NARROWER than '..Said'. Prove '..Said' where nothing that the law and all that it calls make is longer than what came in: it says more and counts as full. Else prove '..UptoSaid'. A law counts once. -/
mutual
def uptoBulk {H : Type} : DataW H → Nat
  | .lit (.string bytes) => bytes.length + 1
  | .lit _ => 1
  | .nil => 1
  | .ptr d => uptoBulk d + 1
  | .slice elems spare => uptoBulkAll elems + uptoBulkAll spare + 1
  | .agg parts => uptoBulkAll parts + 1
  | .iface _ d => uptoBulk d + 1
  | .map entries => uptoBulkEntries entries + 1
  | .held _ => 1
def uptoBulkAll {H : Type} : List (DataW H) → Nat
  | [] => 0
  | d :: r => uptoBulk d + uptoBulkAll r
def uptoBulkEntries {H : Type} : List (Lit × DataW H) → Nat
  | [] => 0
  | x :: r => uptoBulkEntry x + uptoBulkEntries r
def uptoBulkEntry {H : Type} : Lit × DataW H → Nat
  | (.string bytes, d) => bytes.length + uptoBulk d + 1
  | (_, d) => uptoBulk d + 1
 end
def uptoSmall : (H : Type) → List (DataW H) → Bool := fun _ ds => decide (uptoBulkAll ds ≤ 1048576)
def OpenSpec.upto (s : _root_.Go.ChangeSpec) : _root_.Go.OpenSpec := { _root_.Go.OpenSpec.ofChange s with cond := some uptoSmall }

/-- 'speculumlaw12.FramesTell', WHERE WHAT IT READS IS OF BULK AT MOST 1048576: true; the input reads as it did. -/
def framesTellUptoRow : OpenClaim := { program := "ytchpoggegdocpaadoor", sum := "e66bb64f00882ca17f2bfad3995477a51de60dc78c54d7dd091d6652108b214b", func := "speculum/speculumlaw12.FramesTell", spec := "framesTell", inPlace := ["internal/abi.NoEscape", "internal/bytealg.MakeNoZero"], named := ["speculum/sha.first", "speculum/sha.rounds"], apart := false, laid := [("speculum/sha.first", laid_speculum_sha_first), ("speculum/sha.rounds", laid_speculum_sha_rounds)], narrowed := true }
def FramesTellUptoSaid : Prop := framesTellUptoRow.holds Tryd.pinned (OpenSpec.upto framesTellSpec)

/-- 'speculumlaw12.FramesRow', WHERE WHAT IT READS IS OF BULK AT MOST 1048576: true; the input reads as it did. -/
def framesRowUptoRow : OpenClaim := { program := "ytchpoggegdocpaadoor", sum := "e66bb64f00882ca17f2bfad3995477a51de60dc78c54d7dd091d6652108b214b", func := "speculum/speculumlaw12.FramesRow", spec := "framesRow", inPlace := ["internal/abi.NoEscape", "internal/bytealg.MakeNoZero"], named := ["speculum/sha.first", "speculum/sha.rounds"], apart := false, laid := [("speculum/sha.first", laid_speculum_sha_first), ("speculum/sha.rounds", laid_speculum_sha_rounds)], narrowed := true }
def FramesRowUptoSaid : Prop := framesRowUptoRow.holds Tryd.pinned (OpenSpec.upto framesRowSpec)

/-- 'speculumlaw12.FramesTorn', WHERE WHAT IT READS IS OF BULK AT MOST 1048576: true; the input reads as it did. -/
def framesTornUptoRow : OpenClaim := { program := "ytchpoggegdocpaadoor", sum := "e66bb64f00882ca17f2bfad3995477a51de60dc78c54d7dd091d6652108b214b", func := "speculum/speculumlaw12.FramesTorn", spec := "framesTorn", inPlace := ["internal/abi.NoEscape", "internal/bytealg.MakeNoZero"], named := ["speculum/sha.first", "speculum/sha.rounds"], apart := false, laid := [("speculum/sha.first", laid_speculum_sha_first), ("speculum/sha.rounds", laid_speculum_sha_rounds)], narrowed := true }
def FramesTornUptoSaid : Prop := framesTornUptoRow.holds Tryd.pinned (OpenSpec.upto framesTornSpec)

/-- 'speculumlaw12.FramesLong', WHERE WHAT IT READS IS OF BULK AT MOST 1048576: true; the input reads as it did. -/
def framesLongUptoRow : OpenClaim := { program := "ytchpoggegdocpaadoor", sum := "e66bb64f00882ca17f2bfad3995477a51de60dc78c54d7dd091d6652108b214b", func := "speculum/speculumlaw12.FramesLong", spec := "framesLong", inPlace := ["internal/abi.NoEscape", "internal/bytealg.MakeNoZero"], named := ["speculum/sha.first", "speculum/sha.rounds"], apart := false, laid := [("speculum/sha.first", laid_speculum_sha_first), ("speculum/sha.rounds", laid_speculum_sha_rounds)], narrowed := true }
def FramesLongUptoSaid : Prop := framesLongUptoRow.holds Tryd.pinned (OpenSpec.upto framesLongSpec)

/-- 'speculumlaw08.LamportSign', WHERE WHAT IT READS IS OF BULK AT MOST 1048576: true; the input reads as it did. -/
def lamportSignUptoRow : OpenClaim := { program := "ytchpoggegdocpaadoor", sum := "e66bb64f00882ca17f2bfad3995477a51de60dc78c54d7dd091d6652108b214b", func := "speculum/speculumlaw08.LamportSign", spec := "lamportSign", inPlace := ["internal/abi.NoEscape", "internal/bytealg.MakeNoZero"], recurses := true, named := ["speculum/sha.first", "speculum/sha.rounds"], apart := false, laid := [("speculum/sha.first", laid_speculum_sha_first), ("speculum/sha.rounds", laid_speculum_sha_rounds)], narrowed := true }
def LamportSignUptoSaid : Prop := lamportSignUptoRow.holds Tryd.pinned (OpenSpec.upto lamportSignSpec)

/-- 'speculumlaw08.LamportPublic', WHERE WHAT IT READS IS OF BULK AT MOST 1048576: true; the input reads as it did. -/
def lamportPublicUptoRow : OpenClaim := { program := "ytchpoggegdocpaadoor", sum := "e66bb64f00882ca17f2bfad3995477a51de60dc78c54d7dd091d6652108b214b", func := "speculum/speculumlaw08.LamportPublic", spec := "lamportPublic", inPlace := ["internal/abi.NoEscape", "internal/bytealg.MakeNoZero"], recurses := true, named := ["speculum/sha.first", "speculum/sha.rounds"], apart := false, laid := [("speculum/sha.first", laid_speculum_sha_first), ("speculum/sha.rounds", laid_speculum_sha_rounds)], narrowed := true }
def LamportPublicUptoSaid : Prop := lamportPublicUptoRow.holds Tryd.pinned (OpenSpec.upto lamportPublicSpec)

/-- 'speculumlaw08.LamportBytes', WHERE WHAT IT READS IS OF BULK AT MOST 1048576: true; the input reads as it did. -/
def lamportBytesUptoRow : OpenClaim := { program := "ytchpoggegdocpaadoor", sum := "e66bb64f00882ca17f2bfad3995477a51de60dc78c54d7dd091d6652108b214b", func := "speculum/speculumlaw08.LamportBytes", spec := "lamportBytes", inPlace := ["internal/abi.NoEscape", "internal/bytealg.MakeNoZero"], named := ["speculum/sha.first", "speculum/sha.rounds"], apart := false, laid := [("speculum/sha.first", laid_speculum_sha_first), ("speculum/sha.rounds", laid_speculum_sha_rounds)], narrowed := true }
def LamportBytesUptoSaid : Prop := lamportBytesUptoRow.holds Tryd.pinned (OpenSpec.upto lamportBytesSpec)

end Rows
end Go.Proofs.YtchpoggegdocpaaDoor
