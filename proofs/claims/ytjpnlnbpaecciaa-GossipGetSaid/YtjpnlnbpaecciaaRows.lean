/-
  No cell of these rows narrows 'for every input' (looked for: loops, veiled, ifaces, maps, wideKeys, modest, calm, conditions, laid).
  DERIVED. THE GIVEN ROWS OF THIS SEAT. 9 by the template 'for every input the law returns true; each argument reads behind the call as it read before'; 0 by the template 'total and deterministic' (their statements: YtjpnlnbpaecciaaTotals.lean).
  GIVEN WITH THE SEED: the statements are not yours to turn. If you find one false, say at which input.
  Laid BY PROGRAM, IN A SANDBOX (cutbox-rows.mjs): the forced cells as the released guide's own fill.sh prints them over the translation 81db4d89691fadee… (all of the seat's roots in one cut). By AI agents, Wed Nov 11 2026. No macro, syntax, notation, axiom, sorry.
-/
import Derived.Test.YtjpnlnbpaecciaaChecked
import GoSem.Claim
import GoSem.ClaimJoined
import GoSem.ClaimMapViews
import Derived.JoinedTies
import Derived.KernelRfl
namespace Go.Proofs.Ytjpnlnbpaecciaa
/- THE CELL 'sum', in the pinned program and in every row, IS THE sha256 OF THE DUMP (.gsa) THAT YtjpnlnbpaecciaaProg.lean LOADS. Nothing in Lean hashes anything: it is a label: what it is worth is what the hold of that sum in a sandbox is worth. -/
noncomputable def Try.pinned : Pinned := { name := "ytjpnlnbpaecciaa", sum := "81db4d89691fadee91a25368f85ff820fd0e31b5cc633df8518b6450b26342f4", checked := Try.checked }
namespace Rows
def none {H : Type} : Left H := { results := [], args := [] }

/-- 'speculumlaw30.GossipPut': WHATEVER THE INPUT: true; the input reads as it did. -/
def gossipPutSpec : ChangeSpec := { name := "gossipPut", fn := fun _ => fun
  | [d1, d2] => { results := [.lit (.bool true)], args := [d1, d2] }
  | _ => none }
def gossipPutRow : OpenClaim := { program := "ytjpnlnbpaecciaa", sum := "81db4d89691fadee91a25368f85ff820fd0e31b5cc633df8518b6450b26342f4", func := "speculum/speculumlaw30.GossipPut", spec := "gossipPut", inPlace := ["internal/abi.NoEscape"], recurses := true, apart := false }
def GossipPutSaid : Prop := gossipPutRow.holds Try.pinned (OpenSpec.ofChange gossipPutSpec)

/-- ITS FALSE NEIGHBOUR: 'it returns false'. Refute it at one input. -/
def gossipPutWrong : ChangeSpec := { name := "gossipPut", fn := fun _ => fun
  | [d1, d2] => { results := [.lit (.bool false)], args := [d1, d2] }
  | _ => none }
def GossipPutWrongFalsely : Prop := gossipPutRow.holds Try.pinned (OpenSpec.ofChange gossipPutWrong)

/-- 'speculumlaw30.GossipMissing': WHATEVER THE INPUT: true; the input reads as it did. -/
def gossipMissingSpec : ChangeSpec := { name := "gossipMissing", fn := fun _ => fun
  | [d1, d2, d3] => { results := [.lit (.bool true)], args := [d1, d2, d3] }
  | _ => none }
def gossipMissingRow : OpenClaim := { program := "ytjpnlnbpaecciaa", sum := "81db4d89691fadee91a25368f85ff820fd0e31b5cc633df8518b6450b26342f4", func := "speculum/speculumlaw30.GossipMissing", spec := "gossipMissing", inPlace := ["internal/abi.NoEscape"], apart := false }
def GossipMissingSaid : Prop := gossipMissingRow.holds Try.pinned (OpenSpec.ofChange gossipMissingSpec)

/-- ITS FALSE NEIGHBOUR: 'it returns false'. Refute it at one input. -/
def gossipMissingWrong : ChangeSpec := { name := "gossipMissing", fn := fun _ => fun
  | [d1, d2, d3] => { results := [.lit (.bool false)], args := [d1, d2, d3] }
  | _ => none }
def GossipMissingWrongFalsely : Prop := gossipMissingRow.holds Try.pinned (OpenSpec.ofChange gossipMissingWrong)

/-- 'speculumlaw30.GossipAll': WHATEVER THE INPUT: true; the input reads as it did. -/
def gossipAllSpec : ChangeSpec := { name := "gossipAll", fn := fun _ => fun
  | [d] => { results := [.lit (.bool true)], args := [d] }
  | _ => none }
def gossipAllRow : OpenClaim := { program := "ytjpnlnbpaecciaa", sum := "81db4d89691fadee91a25368f85ff820fd0e31b5cc633df8518b6450b26342f4", func := "speculum/speculumlaw30.GossipAll", spec := "gossipAll", inPlace := ["internal/abi.NoEscape"], apart := false }
def GossipAllSaid : Prop := gossipAllRow.holds Try.pinned (OpenSpec.ofChange gossipAllSpec)

/-- ITS FALSE NEIGHBOUR: 'it returns false'. Refute it at one input. -/
def gossipAllWrong : ChangeSpec := { name := "gossipAll", fn := fun _ => fun
  | [d] => { results := [.lit (.bool false)], args := [d] }
  | _ => none }
def GossipAllWrongFalsely : Prop := gossipAllRow.holds Try.pinned (OpenSpec.ofChange gossipAllWrong)

/-- 'speculumlaw17.MessagesPut': WHATEVER THE INPUT: true; the input reads as it did. -/
def messagesPutSpec : ChangeSpec := { name := "messagesPut", fn := fun _ => fun
  | [d1, d2, d3] => { results := [.lit (.bool true)], args := [d1, d2, d3] }
  | _ => none }
def messagesPutRow : OpenClaim := { program := "ytjpnlnbpaecciaa", sum := "81db4d89691fadee91a25368f85ff820fd0e31b5cc633df8518b6450b26342f4", func := "speculum/speculumlaw17.MessagesPut", spec := "messagesPut", inPlace := ["internal/abi.NoEscape"], unfollowed := true, recurses := true, apart := false }
def MessagesPutSaid : Prop := messagesPutRow.holds Try.pinned (OpenSpec.ofChange messagesPutSpec)

/-- ITS FALSE NEIGHBOUR: 'it returns false'. Refute it at one input. -/
def messagesPutWrong : ChangeSpec := { name := "messagesPut", fn := fun _ => fun
  | [d1, d2, d3] => { results := [.lit (.bool false)], args := [d1, d2, d3] }
  | _ => none }
def MessagesPutWrongFalsely : Prop := messagesPutRow.holds Try.pinned (OpenSpec.ofChange messagesPutWrong)

/-- 'speculumlaw30.GossipGet': WHATEVER THE INPUT: true; the input reads as it did. -/
def gossipGetSpec : ChangeSpec := { name := "gossipGet", fn := fun _ => fun
  | [d1, d2, d3] => { results := [.lit (.bool true)], args := [d1, d2, d3] }
  | _ => none }
def gossipGetRow : OpenClaim := { program := "ytjpnlnbpaecciaa", sum := "81db4d89691fadee91a25368f85ff820fd0e31b5cc633df8518b6450b26342f4", func := "speculum/speculumlaw30.GossipGet", spec := "gossipGet", inPlace := ["internal/abi.NoEscape"], recurses := true, apart := false }
def GossipGetSaid : Prop := gossipGetRow.holds Try.pinned (OpenSpec.ofChange gossipGetSpec)

/-- ITS FALSE NEIGHBOUR: 'it returns false'. Refute it at one input. -/
def gossipGetWrong : ChangeSpec := { name := "gossipGet", fn := fun _ => fun
  | [d1, d2, d3] => { results := [.lit (.bool false)], args := [d1, d2, d3] }
  | _ => none }
def GossipGetWrongFalsely : Prop := gossipGetRow.holds Try.pinned (OpenSpec.ofChange gossipGetWrong)

/-- 'speculumlaw30.GossipBack': WHATEVER THE INPUT: true; the input reads as it did. -/
def gossipBackSpec : ChangeSpec := { name := "gossipBack", fn := fun _ => fun
  | [d1, d2, d3] => { results := [.lit (.bool true)], args := [d1, d2, d3] }
  | _ => none }
def gossipBackRow : OpenClaim := { program := "ytjpnlnbpaecciaa", sum := "81db4d89691fadee91a25368f85ff820fd0e31b5cc633df8518b6450b26342f4", func := "speculum/speculumlaw30.GossipBack", spec := "gossipBack", inPlace := ["internal/abi.NoEscape"], apart := false }
def GossipBackSaid : Prop := gossipBackRow.holds Try.pinned (OpenSpec.ofChange gossipBackSpec)

/-- ITS FALSE NEIGHBOUR: 'it returns false'. Refute it at one input. -/
def gossipBackWrong : ChangeSpec := { name := "gossipBack", fn := fun _ => fun
  | [d1, d2, d3] => { results := [.lit (.bool false)], args := [d1, d2, d3] }
  | _ => none }
def GossipBackWrongFalsely : Prop := gossipBackRow.holds Try.pinned (OpenSpec.ofChange gossipBackWrong)

/-- 'speculumlaw17.MessagesGet': WHATEVER THE INPUT: true; the input reads as it did. -/
def messagesGetSpec : ChangeSpec := { name := "messagesGet", fn := fun _ => fun
  | [d] => { results := [.lit (.bool true)], args := [d] }
  | _ => none }
def messagesGetRow : OpenClaim := { program := "ytjpnlnbpaecciaa", sum := "81db4d89691fadee91a25368f85ff820fd0e31b5cc633df8518b6450b26342f4", func := "speculum/speculumlaw17.MessagesGet", spec := "messagesGet", inPlace := ["internal/abi.NoEscape"], recurses := true, apart := false }
def MessagesGetSaid : Prop := messagesGetRow.holds Try.pinned (OpenSpec.ofChange messagesGetSpec)

/-- ITS FALSE NEIGHBOUR: 'it returns false'. Refute it at one input. -/
def messagesGetWrong : ChangeSpec := { name := "messagesGet", fn := fun _ => fun
  | [d] => { results := [.lit (.bool false)], args := [d] }
  | _ => none }
def MessagesGetWrongFalsely : Prop := messagesGetRow.holds Try.pinned (OpenSpec.ofChange messagesGetWrong)

/-- 'speculumlaw17.MessagesBack': WHATEVER THE INPUT: true; the input reads as it did. -/
def messagesBackSpec : ChangeSpec := { name := "messagesBack", fn := fun _ => fun
  | [d1, d2, d3] => { results := [.lit (.bool true)], args := [d1, d2, d3] }
  | _ => none }
def messagesBackRow : OpenClaim := { program := "ytjpnlnbpaecciaa", sum := "81db4d89691fadee91a25368f85ff820fd0e31b5cc633df8518b6450b26342f4", func := "speculum/speculumlaw17.MessagesBack", spec := "messagesBack", inPlace := ["internal/abi.NoEscape"], apart := false }
def MessagesBackSaid : Prop := messagesBackRow.holds Try.pinned (OpenSpec.ofChange messagesBackSpec)

/-- ITS FALSE NEIGHBOUR: 'it returns false'. Refute it at one input. -/
def messagesBackWrong : ChangeSpec := { name := "messagesBack", fn := fun _ => fun
  | [d1, d2, d3] => { results := [.lit (.bool false)], args := [d1, d2, d3] }
  | _ => none }
def MessagesBackWrongFalsely : Prop := messagesBackRow.holds Try.pinned (OpenSpec.ofChange messagesBackWrong)

/-- 'speculumlaw17.MessagesForm': WHATEVER THE INPUT: true; the input reads as it did. -/
def messagesFormSpec : ChangeSpec := { name := "messagesForm", fn := fun _ => fun
  | [d] => { results := [.lit (.bool true)], args := [d] }
  | _ => none }
def messagesFormRow : OpenClaim := { program := "ytjpnlnbpaecciaa", sum := "81db4d89691fadee91a25368f85ff820fd0e31b5cc633df8518b6450b26342f4", func := "speculum/speculumlaw17.MessagesForm", spec := "messagesForm", inPlace := ["internal/abi.NoEscape"], unfollowed := true, recurses := true, apart := false }
def MessagesFormSaid : Prop := messagesFormRow.holds Try.pinned (OpenSpec.ofChange messagesFormSpec)

/-- ITS FALSE NEIGHBOUR: 'it returns false'. Refute it at one input. -/
def messagesFormWrong : ChangeSpec := { name := "messagesForm", fn := fun _ => fun
  | [d] => { results := [.lit (.bool false)], args := [d] }
  | _ => none }
def MessagesFormWrongFalsely : Prop := messagesFormRow.holds Try.pinned (OpenSpec.ofChange messagesFormWrong)

/- THE SECOND FORM. 'bulk': how many values and letters a reading holds, each counted each time it is reached (what is shared counts as often as it is met; a slice's spare places count too). A statement '..UptoSaid' is the law's where the arguments, and the package variables that the reading takes, are together of bulk at most 1048576: NARROWER than '..Said'. Prove '..Said' where nothing that the law and all that it calls make is longer than what came in: it says more and counts as full. Else prove '..UptoSaid'. A law counts once. -/
mutual
def uptoBulk {H : Type} : DataW H → Nat
  | .lit (.string bytes) => bytes.length + 1
  | .lit _ => 1
  | .nil => 1
  | .ptr d => uptoBulk d + 1
  | .slice elems spare => uptoBulkAll elems + uptoBulkAll spare + 1
  | .agg parts => uptoBulkAll parts + 1
  | .iface _ d => uptoBulk d + 1
  | .map entries => uptoBulkEntries entries + 1
  | .held _ => 1
def uptoBulkAll {H : Type} : List (DataW H) → Nat
  | [] => 0
  | d :: r => uptoBulk d + uptoBulkAll r
def uptoBulkEntries {H : Type} : List (Lit × DataW H) → Nat
  | [] => 0
  | x :: r => uptoBulkEntry x + uptoBulkEntries r
def uptoBulkEntry {H : Type} : Lit × DataW H → Nat
  | (.string bytes, d) => bytes.length + uptoBulk d + 1
  | (_, d) => uptoBulk d + 1
 end
def uptoSmall : (H : Type) → List (DataW H) → Bool := fun _ ds => decide (uptoBulkAll ds ≤ 1048576)
def OpenSpec.upto (s : _root_.Go.ChangeSpec) : _root_.Go.OpenSpec := { _root_.Go.OpenSpec.ofChange s with cond := some uptoSmall }

/-- 'speculumlaw30.GossipPut', WHERE WHAT IT READS IS OF BULK AT MOST 1048576: true; the input reads as it did. -/
def gossipPutUptoRow : OpenClaim := { program := "ytjpnlnbpaecciaa", sum := "81db4d89691fadee91a25368f85ff820fd0e31b5cc633df8518b6450b26342f4", func := "speculum/speculumlaw30.GossipPut", spec := "gossipPut", inPlace := ["internal/abi.NoEscape"], recurses := true, apart := false, narrowed := true }
def GossipPutUptoSaid : Prop := gossipPutUptoRow.holds Try.pinned (OpenSpec.upto gossipPutSpec)

/-- 'speculumlaw30.GossipMissing', WHERE WHAT IT READS IS OF BULK AT MOST 1048576: true; the input reads as it did. -/
def gossipMissingUptoRow : OpenClaim := { program := "ytjpnlnbpaecciaa", sum := "81db4d89691fadee91a25368f85ff820fd0e31b5cc633df8518b6450b26342f4", func := "speculum/speculumlaw30.GossipMissing", spec := "gossipMissing", inPlace := ["internal/abi.NoEscape"], apart := false, narrowed := true }
def GossipMissingUptoSaid : Prop := gossipMissingUptoRow.holds Try.pinned (OpenSpec.upto gossipMissingSpec)

/-- 'speculumlaw30.GossipAll', WHERE WHAT IT READS IS OF BULK AT MOST 1048576: true; the input reads as it did. -/
def gossipAllUptoRow : OpenClaim := { program := "ytjpnlnbpaecciaa", sum := "81db4d89691fadee91a25368f85ff820fd0e31b5cc633df8518b6450b26342f4", func := "speculum/speculumlaw30.GossipAll", spec := "gossipAll", inPlace := ["internal/abi.NoEscape"], apart := false, narrowed := true }
def GossipAllUptoSaid : Prop := gossipAllUptoRow.holds Try.pinned (OpenSpec.upto gossipAllSpec)

/-- 'speculumlaw17.MessagesPut', WHERE WHAT IT READS IS OF BULK AT MOST 1048576: true; the input reads as it did. -/
def messagesPutUptoRow : OpenClaim := { program := "ytjpnlnbpaecciaa", sum := "81db4d89691fadee91a25368f85ff820fd0e31b5cc633df8518b6450b26342f4", func := "speculum/speculumlaw17.MessagesPut", spec := "messagesPut", inPlace := ["internal/abi.NoEscape"], unfollowed := true, recurses := true, apart := false, narrowed := true }
def MessagesPutUptoSaid : Prop := messagesPutUptoRow.holds Try.pinned (OpenSpec.upto messagesPutSpec)

/-- 'speculumlaw30.GossipGet', WHERE WHAT IT READS IS OF BULK AT MOST 1048576: true; the input reads as it did. -/
def gossipGetUptoRow : OpenClaim := { program := "ytjpnlnbpaecciaa", sum := "81db4d89691fadee91a25368f85ff820fd0e31b5cc633df8518b6450b26342f4", func := "speculum/speculumlaw30.GossipGet", spec := "gossipGet", inPlace := ["internal/abi.NoEscape"], recurses := true, apart := false, narrowed := true }
def GossipGetUptoSaid : Prop := gossipGetUptoRow.holds Try.pinned (OpenSpec.upto gossipGetSpec)

/-- 'speculumlaw30.GossipBack', WHERE WHAT IT READS IS OF BULK AT MOST 1048576: true; the input reads as it did. -/
def gossipBackUptoRow : OpenClaim := { program := "ytjpnlnbpaecciaa", sum := "81db4d89691fadee91a25368f85ff820fd0e31b5cc633df8518b6450b26342f4", func := "speculum/speculumlaw30.GossipBack", spec := "gossipBack", inPlace := ["internal/abi.NoEscape"], apart := false, narrowed := true }
def GossipBackUptoSaid : Prop := gossipBackUptoRow.holds Try.pinned (OpenSpec.upto gossipBackSpec)

/-- 'speculumlaw17.MessagesGet', WHERE WHAT IT READS IS OF BULK AT MOST 1048576: true; the input reads as it did. -/
def messagesGetUptoRow : OpenClaim := { program := "ytjpnlnbpaecciaa", sum := "81db4d89691fadee91a25368f85ff820fd0e31b5cc633df8518b6450b26342f4", func := "speculum/speculumlaw17.MessagesGet", spec := "messagesGet", inPlace := ["internal/abi.NoEscape"], recurses := true, apart := false, narrowed := true }
def MessagesGetUptoSaid : Prop := messagesGetUptoRow.holds Try.pinned (OpenSpec.upto messagesGetSpec)

/-- 'speculumlaw17.MessagesBack', WHERE WHAT IT READS IS OF BULK AT MOST 1048576: true; the input reads as it did. -/
def messagesBackUptoRow : OpenClaim := { program := "ytjpnlnbpaecciaa", sum := "81db4d89691fadee91a25368f85ff820fd0e31b5cc633df8518b6450b26342f4", func := "speculum/speculumlaw17.MessagesBack", spec := "messagesBack", inPlace := ["internal/abi.NoEscape"], apart := false, narrowed := true }
def MessagesBackUptoSaid : Prop := messagesBackUptoRow.holds Try.pinned (OpenSpec.upto messagesBackSpec)

/-- 'speculumlaw17.MessagesForm', WHERE WHAT IT READS IS OF BULK AT MOST 1048576: true; the input reads as it did. -/
def messagesFormUptoRow : OpenClaim := { program := "ytjpnlnbpaecciaa", sum := "81db4d89691fadee91a25368f85ff820fd0e31b5cc633df8518b6450b26342f4", func := "speculum/speculumlaw17.MessagesForm", spec := "messagesForm", inPlace := ["internal/abi.NoEscape"], unfollowed := true, recurses := true, apart := false, narrowed := true }
def MessagesFormUptoSaid : Prop := messagesFormUptoRow.holds Try.pinned (OpenSpec.upto messagesFormSpec)

end Rows
end Go.Proofs.Ytjpnlnbpaecciaa
