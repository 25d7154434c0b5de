/-
  No cell of these rows narrows 'for every input' (looked for: loops, veiled, ifaces, maps, wideKeys, modest, calm, conditions, laid).
  DERIVED. THE GIVEN ROWS OF THIS SEAT. 5 by the template 'for every input the law returns true; each argument reads behind the call as it read before'; 0 by the template 'total and deterministic' (their statements: YtcllinmgllmpmaaTotals.lean).
  GIVEN WITH THE SEED: the statements are not yours to turn. If you find one false, say at which input.
  Laid BY PROGRAM, IN A SANDBOX (cutbox-rows.mjs): the forced cells as the released guide's own fill.sh prints them over the translation 20a9c1b6f2a4e9ec… (all of the seat's roots in one cut). By AI agents, Wed Nov 11 2026. No macro, syntax, notation, axiom, sorry.
-/
import Derived.Test.YtcllinmgllmpmaaChecked
import GoSem.Claim
import GoSem.ClaimJoined
import GoSem.ClaimMapViews
import Derived.JoinedTies
import Derived.KernelRfl
namespace Go.Proofs.Ytcllinmgllmpmaa
/- THE CELL 'sum', in the pinned program and in every row, IS THE sha256 OF THE DUMP (.gsa) THAT YtcllinmgllmpmaaProg.lean LOADS. Nothing in Lean hashes anything: it is a label: what it is worth is what the hold of that sum in a sandbox is worth. -/
noncomputable def Try.pinned : Pinned := { name := "ytcllinmgllmpmaa", sum := "20a9c1b6f2a4e9ec8b593e4dc140d592cb4badbc27f4d7aa07a4221d9507b42a", checked := Try.checked }
namespace Rows
def none {H : Type} : Left H := { results := [], args := [] }

/-- 'sluicegatelaw06.ZlibNames': WHATEVER THE INPUT: true; the input reads as it did. -/
def zlibNamesSpec : ChangeSpec := { name := "zlibNames", fn := fun _ => fun
  | [] => { results := [.lit (.bool true)], args := [] }
  | _ => none }
def zlibNamesRow : OpenClaim := { program := "ytcllinmgllmpmaa", sum := "20a9c1b6f2a4e9ec8b593e4dc140d592cb4badbc27f4d7aa07a4221d9507b42a", func := "sluicegate/sluicegatelaw06.ZlibNames", spec := "zlibNames", unfollowed := true, recurses := true, plainKeys := false, apart := false }
def ZlibNamesSaid : Prop := zlibNamesRow.holds Try.pinned (OpenSpec.ofChange zlibNamesSpec)

/-- ITS FALSE NEIGHBOUR: 'it returns false'. Refute it at one input. -/
def zlibNamesWrong : ChangeSpec := { name := "zlibNames", fn := fun _ => fun
  | [] => { results := [.lit (.bool false)], args := [] }
  | _ => none }
def ZlibNamesWrongFalsely : Prop := zlibNamesRow.holds Try.pinned (OpenSpec.ofChange zlibNamesWrong)

/-- 'sluicegatelaw06.ZlibCalls': WHATEVER THE INPUT: true; the input reads as it did. -/
def zlibCallsSpec : ChangeSpec := { name := "zlibCalls", fn := fun _ => fun
  | [d1, d2] => { results := [.lit (.bool true)], args := [d1, d2] }
  | _ => none }
def zlibCallsRow : OpenClaim := { program := "ytcllinmgllmpmaa", sum := "20a9c1b6f2a4e9ec8b593e4dc140d592cb4badbc27f4d7aa07a4221d9507b42a", func := "sluicegate/sluicegatelaw06.ZlibCalls", spec := "zlibCalls", unfollowed := true, recurses := true, plainKeys := false, apart := false }
def ZlibCallsSaid : Prop := zlibCallsRow.holds Try.pinned (OpenSpec.ofChange zlibCallsSpec)

/-- ITS FALSE NEIGHBOUR: 'it returns false'. Refute it at one input. -/
def zlibCallsWrong : ChangeSpec := { name := "zlibCalls", fn := fun _ => fun
  | [d1, d2] => { results := [.lit (.bool false)], args := [d1, d2] }
  | _ => none }
def ZlibCallsWrongFalsely : Prop := zlibCallsRow.holds Try.pinned (OpenSpec.ofChange zlibCallsWrong)

/-- 'sluicegatelaw06.ZlibBack': WHATEVER THE INPUT: true; the input reads as it did. -/
def zlibBackSpec : ChangeSpec := { name := "zlibBack", fn := fun _ => fun
  | [d1, d2] => { results := [.lit (.bool true)], args := [d1, d2] }
  | _ => none }
def zlibBackRow : OpenClaim := { program := "ytcllinmgllmpmaa", sum := "20a9c1b6f2a4e9ec8b593e4dc140d592cb4badbc27f4d7aa07a4221d9507b42a", func := "sluicegate/sluicegatelaw06.ZlibBack", spec := "zlibBack", unfollowed := true, recurses := true, plainKeys := false, apart := false }
def ZlibBackSaid : Prop := zlibBackRow.holds Try.pinned (OpenSpec.ofChange zlibBackSpec)

/-- ITS FALSE NEIGHBOUR: 'it returns false'. Refute it at one input. -/
def zlibBackWrong : ChangeSpec := { name := "zlibBack", fn := fun _ => fun
  | [d1, d2] => { results := [.lit (.bool false)], args := [d1, d2] }
  | _ => none }
def ZlibBackWrongFalsely : Prop := zlibBackRow.holds Try.pinned (OpenSpec.ofChange zlibBackWrong)

/-- 'sluicegatelaw06.ZlibTurned': WHATEVER THE INPUT: true; the input reads as it did. -/
def zlibTurnedSpec : ChangeSpec := { name := "zlibTurned", fn := fun _ => fun
  | [d1, d2] => { results := [.lit (.bool true)], args := [d1, d2] }
  | _ => none }
def zlibTurnedRow : OpenClaim := { program := "ytcllinmgllmpmaa", sum := "20a9c1b6f2a4e9ec8b593e4dc140d592cb4badbc27f4d7aa07a4221d9507b42a", func := "sluicegate/sluicegatelaw06.ZlibTurned", spec := "zlibTurned", unfollowed := true, recurses := true, plainKeys := false, apart := false }
def ZlibTurnedSaid : Prop := zlibTurnedRow.holds Try.pinned (OpenSpec.ofChange zlibTurnedSpec)

/-- ITS FALSE NEIGHBOUR: 'it returns false'. Refute it at one input. -/
def zlibTurnedWrong : ChangeSpec := { name := "zlibTurned", fn := fun _ => fun
  | [d1, d2] => { results := [.lit (.bool false)], args := [d1, d2] }
  | _ => none }
def ZlibTurnedWrongFalsely : Prop := zlibTurnedRow.holds Try.pinned (OpenSpec.ofChange zlibTurnedWrong)

/-- 'sluicegatelaw06.ZlibWhole': WHATEVER THE INPUT: true; the input reads as it did. -/
def zlibWholeSpec : ChangeSpec := { name := "zlibWhole", fn := fun _ => fun
  | [d1, d2] => { results := [.lit (.bool true)], args := [d1, d2] }
  | _ => none }
def zlibWholeRow : OpenClaim := { program := "ytcllinmgllmpmaa", sum := "20a9c1b6f2a4e9ec8b593e4dc140d592cb4badbc27f4d7aa07a4221d9507b42a", func := "sluicegate/sluicegatelaw06.ZlibWhole", spec := "zlibWhole", unfollowed := true, recurses := true, plainKeys := false, apart := false }
def ZlibWholeSaid : Prop := zlibWholeRow.holds Try.pinned (OpenSpec.ofChange zlibWholeSpec)

/-- ITS FALSE NEIGHBOUR: 'it returns false'. Refute it at one input. -/
def zlibWholeWrong : ChangeSpec := { name := "zlibWhole", fn := fun _ => fun
  | [d1, d2] => { results := [.lit (.bool false)], args := [d1, d2] }
  | _ => none }
def ZlibWholeWrongFalsely : Prop := zlibWholeRow.holds Try.pinned (OpenSpec.ofChange zlibWholeWrong)

/- THE SECOND FORM. 'bulk': how many values and letters a reading holds, each counted each time it is reached (what is shared counts as often as it is met; a slice's spare places count too). A statement '..UptoSaid' is the law's where the arguments, and the package variables that the reading takes, are together of bulk at most 1048576: NARROWER than '..Said'. Prove '..Said' where nothing that the law and all that it calls make is longer than what came in: it says more and counts as full. Else prove '..UptoSaid'. A law counts once. -/
mutual
def uptoBulk {H : Type} : DataW H → Nat
  | .lit (.string bytes) => bytes.length + 1
  | .lit _ => 1
  | .nil => 1
  | .ptr d => uptoBulk d + 1
  | .slice elems spare => uptoBulkAll elems + uptoBulkAll spare + 1
  | .agg parts => uptoBulkAll parts + 1
  | .iface _ d => uptoBulk d + 1
  | .map entries => uptoBulkEntries entries + 1
  | .held _ => 1
def uptoBulkAll {H : Type} : List (DataW H) → Nat
  | [] => 0
  | d :: r => uptoBulk d + uptoBulkAll r
def uptoBulkEntries {H : Type} : List (Lit × DataW H) → Nat
  | [] => 0
  | x :: r => uptoBulkEntry x + uptoBulkEntries r
def uptoBulkEntry {H : Type} : Lit × DataW H → Nat
  | (.string bytes, d) => bytes.length + uptoBulk d + 1
  | (_, d) => uptoBulk d + 1
 end
def uptoSmall : (H : Type) → List (DataW H) → Bool := fun _ ds => decide (uptoBulkAll ds ≤ 1048576)
def OpenSpec.upto (s : _root_.Go.ChangeSpec) : _root_.Go.OpenSpec := { _root_.Go.OpenSpec.ofChange s with cond := some uptoSmall }

/-- 'sluicegatelaw06.ZlibNames', WHERE WHAT IT READS IS OF BULK AT MOST 1048576: true; the input reads as it did. -/
def zlibNamesUptoRow : OpenClaim := { program := "ytcllinmgllmpmaa", sum := "20a9c1b6f2a4e9ec8b593e4dc140d592cb4badbc27f4d7aa07a4221d9507b42a", func := "sluicegate/sluicegatelaw06.ZlibNames", spec := "zlibNames", unfollowed := true, recurses := true, plainKeys := false, apart := false, narrowed := true }
def ZlibNamesUptoSaid : Prop := zlibNamesUptoRow.holds Try.pinned (OpenSpec.upto zlibNamesSpec)

/-- 'sluicegatelaw06.ZlibCalls', WHERE WHAT IT READS IS OF BULK AT MOST 1048576: true; the input reads as it did. -/
def zlibCallsUptoRow : OpenClaim := { program := "ytcllinmgllmpmaa", sum := "20a9c1b6f2a4e9ec8b593e4dc140d592cb4badbc27f4d7aa07a4221d9507b42a", func := "sluicegate/sluicegatelaw06.ZlibCalls", spec := "zlibCalls", unfollowed := true, recurses := true, plainKeys := false, apart := false, narrowed := true }
def ZlibCallsUptoSaid : Prop := zlibCallsUptoRow.holds Try.pinned (OpenSpec.upto zlibCallsSpec)

/-- 'sluicegatelaw06.ZlibBack', WHERE WHAT IT READS IS OF BULK AT MOST 1048576: true; the input reads as it did. -/
def zlibBackUptoRow : OpenClaim := { program := "ytcllinmgllmpmaa", sum := "20a9c1b6f2a4e9ec8b593e4dc140d592cb4badbc27f4d7aa07a4221d9507b42a", func := "sluicegate/sluicegatelaw06.ZlibBack", spec := "zlibBack", unfollowed := true, recurses := true, plainKeys := false, apart := false, narrowed := true }
def ZlibBackUptoSaid : Prop := zlibBackUptoRow.holds Try.pinned (OpenSpec.upto zlibBackSpec)

/-- 'sluicegatelaw06.ZlibTurned', WHERE WHAT IT READS IS OF BULK AT MOST 1048576: true; the input reads as it did. -/
def zlibTurnedUptoRow : OpenClaim := { program := "ytcllinmgllmpmaa", sum := "20a9c1b6f2a4e9ec8b593e4dc140d592cb4badbc27f4d7aa07a4221d9507b42a", func := "sluicegate/sluicegatelaw06.ZlibTurned", spec := "zlibTurned", unfollowed := true, recurses := true, plainKeys := false, apart := false, narrowed := true }
def ZlibTurnedUptoSaid : Prop := zlibTurnedUptoRow.holds Try.pinned (OpenSpec.upto zlibTurnedSpec)

/-- 'sluicegatelaw06.ZlibWhole', WHERE WHAT IT READS IS OF BULK AT MOST 1048576: true; the input reads as it did. -/
def zlibWholeUptoRow : OpenClaim := { program := "ytcllinmgllmpmaa", sum := "20a9c1b6f2a4e9ec8b593e4dc140d592cb4badbc27f4d7aa07a4221d9507b42a", func := "sluicegate/sluicegatelaw06.ZlibWhole", spec := "zlibWhole", unfollowed := true, recurses := true, plainKeys := false, apart := false, narrowed := true }
def ZlibWholeUptoSaid : Prop := zlibWholeUptoRow.holds Try.pinned (OpenSpec.upto zlibWholeSpec)

end Rows
end Go.Proofs.Ytcllinmgllmpmaa
