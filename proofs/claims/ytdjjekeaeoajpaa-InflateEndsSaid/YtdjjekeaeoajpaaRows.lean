/-
  No cell of these rows narrows 'for every input' (looked for: loops, veiled, ifaces, maps, wideKeys, modest, calm, conditions, laid).
  DERIVED. THE GIVEN ROWS OF THIS SEAT. 3 by the template 'for every input the law returns true; each argument reads behind the call as it read before'; 0 by the template 'total and deterministic' (their statements: YtdjjekeaeoajpaaTotals.lean).
  GIVEN WITH THE SEED: the statements are not yours to turn. If you find one false, say at which input.
  Laid BY PROGRAM, IN A SANDBOX (cutbox-rows.mjs): the forced cells as the released guide's own fill.sh prints them over the translation 7c00382d176dd3c6… (all of the seat's roots in one cut). By AI agents, Wed Nov 11 2026. No macro, syntax, notation, axiom, sorry.
-/
import Derived.Test.YtdjjekeaeoajpaaChecked
import GoSem.Claim
import GoSem.ClaimJoined
import GoSem.ClaimMapViews
import Derived.JoinedTies
import Derived.KernelRfl
namespace Go.Proofs.Ytdjjekeaeoajpaa
/- THE CELL 'sum', in the pinned program and in every row, IS THE sha256 OF THE DUMP (.gsa) THAT YtdjjekeaeoajpaaProg.lean LOADS. Nothing in Lean hashes anything: it is a label: what it is worth is what the hold of that sum in a sandbox is worth. -/
noncomputable def Try.pinned : Pinned := { name := "ytdjjekeaeoajpaa", sum := "7c00382d176dd3c6aaeeb09e5d088c2a194ab1f3707ecb2c8b5815ae2d8e365f", checked := Try.checked }
namespace Rows
def none {H : Type} : Left H := { results := [], args := [] }

/-- 'sluicegatelaw04.InflateNames': WHATEVER THE INPUT: true; the input reads as it did. -/
def inflateNamesSpec : ChangeSpec := { name := "inflateNames", fn := fun _ => fun
  | [] => { results := [.lit (.bool true)], args := [] }
  | _ => none }
def inflateNamesRow : OpenClaim := { program := "ytdjjekeaeoajpaa", sum := "7c00382d176dd3c6aaeeb09e5d088c2a194ab1f3707ecb2c8b5815ae2d8e365f", func := "sluicegate/sluicegatelaw04.InflateNames", spec := "inflateNames", unfollowed := true, recurses := true, apart := false }
def InflateNamesSaid : Prop := inflateNamesRow.holds Try.pinned (OpenSpec.ofChange inflateNamesSpec)

/-- ITS FALSE NEIGHBOUR: 'it returns false'. Refute it at one input. -/
def inflateNamesWrong : ChangeSpec := { name := "inflateNames", fn := fun _ => fun
  | [] => { results := [.lit (.bool false)], args := [] }
  | _ => none }
def InflateNamesWrongFalsely : Prop := inflateNamesRow.holds Try.pinned (OpenSpec.ofChange inflateNamesWrong)

/-- 'sluicegatelaw04.InflateEnds': WHATEVER THE INPUT: true; the input reads as it did. -/
def inflateEndsSpec : ChangeSpec := { name := "inflateEnds", fn := fun _ => fun
  | [d1, d2] => { results := [.lit (.bool true)], args := [d1, d2] }
  | _ => none }
def inflateEndsRow : OpenClaim := { program := "ytdjjekeaeoajpaa", sum := "7c00382d176dd3c6aaeeb09e5d088c2a194ab1f3707ecb2c8b5815ae2d8e365f", func := "sluicegate/sluicegatelaw04.InflateEnds", spec := "inflateEnds", unfollowed := true, recurses := true, apart := false }
def InflateEndsSaid : Prop := inflateEndsRow.holds Try.pinned (OpenSpec.ofChange inflateEndsSpec)

/-- ITS FALSE NEIGHBOUR: 'it returns false'. Refute it at one input. -/
def inflateEndsWrong : ChangeSpec := { name := "inflateEnds", fn := fun _ => fun
  | [d1, d2] => { results := [.lit (.bool false)], args := [d1, d2] }
  | _ => none }
def InflateEndsWrongFalsely : Prop := inflateEndsRow.holds Try.pinned (OpenSpec.ofChange inflateEndsWrong)

/-- 'sluicegatelaw04.InflateBlocks': WHATEVER THE INPUT: true; the input reads as it did. -/
def inflateBlocksSpec : ChangeSpec := { name := "inflateBlocks", fn := fun _ => fun
  | [d] => { results := [.lit (.bool true)], args := [d] }
  | _ => none }
def inflateBlocksRow : OpenClaim := { program := "ytdjjekeaeoajpaa", sum := "7c00382d176dd3c6aaeeb09e5d088c2a194ab1f3707ecb2c8b5815ae2d8e365f", func := "sluicegate/sluicegatelaw04.InflateBlocks", spec := "inflateBlocks", unfollowed := true, recurses := true, apart := false }
def InflateBlocksSaid : Prop := inflateBlocksRow.holds Try.pinned (OpenSpec.ofChange inflateBlocksSpec)

/-- ITS FALSE NEIGHBOUR: 'it returns false'. Refute it at one input. -/
def inflateBlocksWrong : ChangeSpec := { name := "inflateBlocks", fn := fun _ => fun
  | [d] => { results := [.lit (.bool false)], args := [d] }
  | _ => none }
def InflateBlocksWrongFalsely : Prop := inflateBlocksRow.holds Try.pinned (OpenSpec.ofChange inflateBlocksWrong)

/- THE SECOND FORM. 'bulk': how many values and letters a reading holds, each counted each time it is reached (what is shared counts as often as it is met; a slice's spare places count too). A statement '..UptoSaid' is the law's where the arguments, and the package variables that the reading takes, are together of bulk at most 1048576: NARROWER than '..Said'. Prove '..Said' where nothing that the law and all that it calls make is longer than what came in: it says more and counts as full. Else prove '..UptoSaid'. A law counts once. -/
mutual
def uptoBulk {H : Type} : DataW H → Nat
  | .lit (.string bytes) => bytes.length + 1
  | .lit _ => 1
  | .nil => 1
  | .ptr d => uptoBulk d + 1
  | .slice elems spare => uptoBulkAll elems + uptoBulkAll spare + 1
  | .agg parts => uptoBulkAll parts + 1
  | .iface _ d => uptoBulk d + 1
  | .map entries => uptoBulkEntries entries + 1
  | .held _ => 1
def uptoBulkAll {H : Type} : List (DataW H) → Nat
  | [] => 0
  | d :: r => uptoBulk d + uptoBulkAll r
def uptoBulkEntries {H : Type} : List (Lit × DataW H) → Nat
  | [] => 0
  | x :: r => uptoBulkEntry x + uptoBulkEntries r
def uptoBulkEntry {H : Type} : Lit × DataW H → Nat
  | (.string bytes, d) => bytes.length + uptoBulk d + 1
  | (_, d) => uptoBulk d + 1
 end
def uptoSmall : (H : Type) → List (DataW H) → Bool := fun _ ds => decide (uptoBulkAll ds ≤ 1048576)
def OpenSpec.upto (s : _root_.Go.ChangeSpec) : _root_.Go.OpenSpec := { _root_.Go.OpenSpec.ofChange s with cond := some uptoSmall }

/-- 'sluicegatelaw04.InflateNames', WHERE WHAT IT READS IS OF BULK AT MOST 1048576: true; the input reads as it did. -/
def inflateNamesUptoRow : OpenClaim := { program := "ytdjjekeaeoajpaa", sum := "7c00382d176dd3c6aaeeb09e5d088c2a194ab1f3707ecb2c8b5815ae2d8e365f", func := "sluicegate/sluicegatelaw04.InflateNames", spec := "inflateNames", unfollowed := true, recurses := true, apart := false, narrowed := true }
def InflateNamesUptoSaid : Prop := inflateNamesUptoRow.holds Try.pinned (OpenSpec.upto inflateNamesSpec)

/-- 'sluicegatelaw04.InflateEnds', WHERE WHAT IT READS IS OF BULK AT MOST 1048576: true; the input reads as it did. -/
def inflateEndsUptoRow : OpenClaim := { program := "ytdjjekeaeoajpaa", sum := "7c00382d176dd3c6aaeeb09e5d088c2a194ab1f3707ecb2c8b5815ae2d8e365f", func := "sluicegate/sluicegatelaw04.InflateEnds", spec := "inflateEnds", unfollowed := true, recurses := true, apart := false, narrowed := true }
def InflateEndsUptoSaid : Prop := inflateEndsUptoRow.holds Try.pinned (OpenSpec.upto inflateEndsSpec)

/-- 'sluicegatelaw04.InflateBlocks', WHERE WHAT IT READS IS OF BULK AT MOST 1048576: true; the input reads as it did. -/
def inflateBlocksUptoRow : OpenClaim := { program := "ytdjjekeaeoajpaa", sum := "7c00382d176dd3c6aaeeb09e5d088c2a194ab1f3707ecb2c8b5815ae2d8e365f", func := "sluicegate/sluicegatelaw04.InflateBlocks", spec := "inflateBlocks", unfollowed := true, recurses := true, apart := false, narrowed := true }
def InflateBlocksUptoSaid : Prop := inflateBlocksUptoRow.holds Try.pinned (OpenSpec.upto inflateBlocksSpec)

end Rows
end Go.Proofs.Ytdjjekeaeoajpaa
