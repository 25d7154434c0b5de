/-
  No cell of these rows narrows 'for every input' (looked for: loops, veiled, ifaces, maps, wideKeys, modest, calm, conditions, laid).
  DERIVED. THE GIVEN ROWS OF THIS SEAT. 5 by the template 'for every input the law returns true; each argument reads behind the call as it read before'; 0 by the template 'total and deterministic' (their statements: YtconnpileacfeaaTotals.lean).
  GIVEN WITH THE SEED: the statements are not yours to turn. If you find one false, say at which input.
  Laid BY PROGRAM, IN A SANDBOX (cutbox-rows.mjs): the forced cells as the released guide's own fill.sh prints them over the translation 19e784b14cfe30c6… (all of the seat's roots in one cut). By AI agents, Wed Nov 11 2026. No macro, syntax, notation, axiom, sorry.
-/
import Derived.Test.YtconnpileacfeaaChecked
import GoSem.Claim
import GoSem.ClaimJoined
import GoSem.ClaimMapViews
import Derived.JoinedTies
import Derived.KernelRfl
namespace Go.Proofs.Ytconnpileacfeaa
/- THE CELL 'sum', in the pinned program and in every row, IS THE sha256 OF THE DUMP (.gsa) THAT YtconnpileacfeaaProg.lean LOADS. Nothing in Lean hashes anything: it is a label: what it is worth is what the hold of that sum in a sandbox is worth. -/
noncomputable def Try.pinned : Pinned := { name := "ytconnpileacfeaa", sum := "19e784b14cfe30c6cfecf2a80b3534640d53027fbbcd2ef460b58ca3452fdcfe", checked := Try.checked }
namespace Rows
def none {H : Type} : Left H := { results := [], args := [] }

/-- 'sluicegatelaw09.PacketCalls': WHATEVER THE INPUT: true; the input reads as it did. -/
def packetCallsSpec : ChangeSpec := { name := "packetCalls", fn := fun _ => fun
  | [d1, d2, d3, d4] => { results := [.lit (.bool true)], args := [d1, d2, d3, d4] }
  | _ => none }
def packetCallsRow : OpenClaim := { program := "ytconnpileacfeaa", sum := "19e784b14cfe30c6cfecf2a80b3534640d53027fbbcd2ef460b58ca3452fdcfe", func := "sluicegate/sluicegatelaw09.PacketCalls", spec := "packetCalls", apart := false }
def PacketCallsSaid : Prop := packetCallsRow.holds Try.pinned (OpenSpec.ofChange packetCallsSpec)

/-- ITS FALSE NEIGHBOUR: 'it returns false'. Refute it at one input. -/
def packetCallsWrong : ChangeSpec := { name := "packetCalls", fn := fun _ => fun
  | [d1, d2, d3, d4] => { results := [.lit (.bool false)], args := [d1, d2, d3, d4] }
  | _ => none }
def PacketCallsWrongFalsely : Prop := packetCallsRow.holds Try.pinned (OpenSpec.ofChange packetCallsWrong)

/-- 'sluicegatelaw09.PacketNames': WHATEVER THE INPUT: true; the input reads as it did. -/
def packetNamesSpec : ChangeSpec := { name := "packetNames", fn := fun _ => fun
  | [] => { results := [.lit (.bool true)], args := [] }
  | _ => none }
def packetNamesRow : OpenClaim := { program := "ytconnpileacfeaa", sum := "19e784b14cfe30c6cfecf2a80b3534640d53027fbbcd2ef460b58ca3452fdcfe", func := "sluicegate/sluicegatelaw09.PacketNames", spec := "packetNames", apart := false }
def PacketNamesSaid : Prop := packetNamesRow.holds Try.pinned (OpenSpec.ofChange packetNamesSpec)

/-- ITS FALSE NEIGHBOUR: 'it returns false'. Refute it at one input. -/
def packetNamesWrong : ChangeSpec := { name := "packetNames", fn := fun _ => fun
  | [] => { results := [.lit (.bool false)], args := [] }
  | _ => none }
def PacketNamesWrongFalsely : Prop := packetNamesRow.holds Try.pinned (OpenSpec.ofChange packetNamesWrong)

/-- 'sluicegatelaw09.PacketChunks': WHATEVER THE INPUT: true; the input reads as it did. -/
def packetChunksSpec : ChangeSpec := { name := "packetChunks", fn := fun _ => fun
  | [d1, d2, d3] => { results := [.lit (.bool true)], args := [d1, d2, d3] }
  | _ => none }
def packetChunksRow : OpenClaim := { program := "ytconnpileacfeaa", sum := "19e784b14cfe30c6cfecf2a80b3534640d53027fbbcd2ef460b58ca3452fdcfe", func := "sluicegate/sluicegatelaw09.PacketChunks", spec := "packetChunks", apart := false }
def PacketChunksSaid : Prop := packetChunksRow.holds Try.pinned (OpenSpec.ofChange packetChunksSpec)

/-- ITS FALSE NEIGHBOUR: 'it returns false'. Refute it at one input. -/
def packetChunksWrong : ChangeSpec := { name := "packetChunks", fn := fun _ => fun
  | [d1, d2, d3] => { results := [.lit (.bool false)], args := [d1, d2, d3] }
  | _ => none }
def PacketChunksWrongFalsely : Prop := packetChunksRow.holds Try.pinned (OpenSpec.ofChange packetChunksWrong)

/-- 'sluicegatelaw09.PacketHolds': WHATEVER THE INPUT: true; the input reads as it did. -/
def packetHoldsSpec : ChangeSpec := { name := "packetHolds", fn := fun _ => fun
  | [d1, d2, d3] => { results := [.lit (.bool true)], args := [d1, d2, d3] }
  | _ => none }
def packetHoldsRow : OpenClaim := { program := "ytconnpileacfeaa", sum := "19e784b14cfe30c6cfecf2a80b3534640d53027fbbcd2ef460b58ca3452fdcfe", func := "sluicegate/sluicegatelaw09.PacketHolds", spec := "packetHolds", apart := false }
def PacketHoldsSaid : Prop := packetHoldsRow.holds Try.pinned (OpenSpec.ofChange packetHoldsSpec)

/-- ITS FALSE NEIGHBOUR: 'it returns false'. Refute it at one input. -/
def packetHoldsWrong : ChangeSpec := { name := "packetHolds", fn := fun _ => fun
  | [d1, d2, d3] => { results := [.lit (.bool false)], args := [d1, d2, d3] }
  | _ => none }
def PacketHoldsWrongFalsely : Prop := packetHoldsRow.holds Try.pinned (OpenSpec.ofChange packetHoldsWrong)

/-- 'sluicegatelaw09.PacketNil': WHATEVER THE INPUT: true; the input reads as it did. -/
def packetNilSpec : ChangeSpec := { name := "packetNil", fn := fun _ => fun
  | [d1, d2] => { results := [.lit (.bool true)], args := [d1, d2] }
  | _ => none }
def packetNilRow : OpenClaim := { program := "ytconnpileacfeaa", sum := "19e784b14cfe30c6cfecf2a80b3534640d53027fbbcd2ef460b58ca3452fdcfe", func := "sluicegate/sluicegatelaw09.PacketNil", spec := "packetNil", apart := false }
def PacketNilSaid : Prop := packetNilRow.holds Try.pinned (OpenSpec.ofChange packetNilSpec)

/-- ITS FALSE NEIGHBOUR: 'it returns false'. Refute it at one input. -/
def packetNilWrong : ChangeSpec := { name := "packetNil", fn := fun _ => fun
  | [d1, d2] => { results := [.lit (.bool false)], args := [d1, d2] }
  | _ => none }
def PacketNilWrongFalsely : Prop := packetNilRow.holds Try.pinned (OpenSpec.ofChange packetNilWrong)

/- THE SECOND FORM. 'bulk': how many values and letters a reading holds, each counted each time it is reached (what is shared counts as often as it is met; a slice's spare places count too). A statement '..UptoSaid' is the law's where the arguments, and the package variables that the reading takes, are together of bulk at most 1048576: NARROWER than '..Said'. Prove '..Said' where nothing that the law and all that it calls make is longer than what came in: it says more and counts as full. Else prove '..UptoSaid'. A law counts once. -/
mutual
def uptoBulk {H : Type} : DataW H → Nat
  | .lit (.string bytes) => bytes.length + 1
  | .lit _ => 1
  | .nil => 1
  | .ptr d => uptoBulk d + 1
  | .slice elems spare => uptoBulkAll elems + uptoBulkAll spare + 1
  | .agg parts => uptoBulkAll parts + 1
  | .iface _ d => uptoBulk d + 1
  | .map entries => uptoBulkEntries entries + 1
  | .held _ => 1
def uptoBulkAll {H : Type} : List (DataW H) → Nat
  | [] => 0
  | d :: r => uptoBulk d + uptoBulkAll r
def uptoBulkEntries {H : Type} : List (Lit × DataW H) → Nat
  | [] => 0
  | x :: r => uptoBulkEntry x + uptoBulkEntries r
def uptoBulkEntry {H : Type} : Lit × DataW H → Nat
  | (.string bytes, d) => bytes.length + uptoBulk d + 1
  | (_, d) => uptoBulk d + 1
 end
def uptoSmall : (H : Type) → List (DataW H) → Bool := fun _ ds => decide (uptoBulkAll ds ≤ 1048576)
def OpenSpec.upto (s : _root_.Go.ChangeSpec) : _root_.Go.OpenSpec := { _root_.Go.OpenSpec.ofChange s with cond := some uptoSmall }

/-- 'sluicegatelaw09.PacketCalls', WHERE WHAT IT READS IS OF BULK AT MOST 1048576: true; the input reads as it did. -/
def packetCallsUptoRow : OpenClaim := { program := "ytconnpileacfeaa", sum := "19e784b14cfe30c6cfecf2a80b3534640d53027fbbcd2ef460b58ca3452fdcfe", func := "sluicegate/sluicegatelaw09.PacketCalls", spec := "packetCalls", apart := false, narrowed := true }
def PacketCallsUptoSaid : Prop := packetCallsUptoRow.holds Try.pinned (OpenSpec.upto packetCallsSpec)

/-- 'sluicegatelaw09.PacketNames', WHERE WHAT IT READS IS OF BULK AT MOST 1048576: true; the input reads as it did. -/
def packetNamesUptoRow : OpenClaim := { program := "ytconnpileacfeaa", sum := "19e784b14cfe30c6cfecf2a80b3534640d53027fbbcd2ef460b58ca3452fdcfe", func := "sluicegate/sluicegatelaw09.PacketNames", spec := "packetNames", apart := false, narrowed := true }
def PacketNamesUptoSaid : Prop := packetNamesUptoRow.holds Try.pinned (OpenSpec.upto packetNamesSpec)

/-- 'sluicegatelaw09.PacketChunks', WHERE WHAT IT READS IS OF BULK AT MOST 1048576: true; the input reads as it did. -/
def packetChunksUptoRow : OpenClaim := { program := "ytconnpileacfeaa", sum := "19e784b14cfe30c6cfecf2a80b3534640d53027fbbcd2ef460b58ca3452fdcfe", func := "sluicegate/sluicegatelaw09.PacketChunks", spec := "packetChunks", apart := false, narrowed := true }
def PacketChunksUptoSaid : Prop := packetChunksUptoRow.holds Try.pinned (OpenSpec.upto packetChunksSpec)

/-- 'sluicegatelaw09.PacketHolds', WHERE WHAT IT READS IS OF BULK AT MOST 1048576: true; the input reads as it did. -/
def packetHoldsUptoRow : OpenClaim := { program := "ytconnpileacfeaa", sum := "19e784b14cfe30c6cfecf2a80b3534640d53027fbbcd2ef460b58ca3452fdcfe", func := "sluicegate/sluicegatelaw09.PacketHolds", spec := "packetHolds", apart := false, narrowed := true }
def PacketHoldsUptoSaid : Prop := packetHoldsUptoRow.holds Try.pinned (OpenSpec.upto packetHoldsSpec)

/-- 'sluicegatelaw09.PacketNil', WHERE WHAT IT READS IS OF BULK AT MOST 1048576: true; the input reads as it did. -/
def packetNilUptoRow : OpenClaim := { program := "ytconnpileacfeaa", sum := "19e784b14cfe30c6cfecf2a80b3534640d53027fbbcd2ef460b58ca3452fdcfe", func := "sluicegate/sluicegatelaw09.PacketNil", spec := "packetNil", apart := false, narrowed := true }
def PacketNilUptoSaid : Prop := packetNilUptoRow.holds Try.pinned (OpenSpec.upto packetNilSpec)

end Rows
end Go.Proofs.Ytconnpileacfeaa
