/-
  No cell of these rows narrows 'for every input' (looked for: loops, veiled, ifaces, maps, wideKeys, modest, calm, conditions, laid).
  DERIVED. THE GIVEN ROWS OF THIS SEAT. 5 by the template 'for every input the law returns true; each argument reads behind the call as it read before'; 0 by the template 'total and deterministic' (their statements: YteblpjhkgdpchaaTotals.lean).
  GIVEN WITH THE SEED: the statements are not yours to turn. If you find one false, say at which input.
  Laid BY PROGRAM, IN A SANDBOX (cutbox-rows.mjs): the forced cells as the released guide's own fill.sh prints them over the translation 84d54967b67f809e… (all of the seat's roots in one cut). By AI agents, Wed Nov 11 2026. No macro, syntax, notation, axiom, sorry.
-/
import Derived.Test.YteblpjhkgdpchaaChecked
import GoSem.Claim
import GoSem.ClaimJoined
import GoSem.ClaimMapViews
import Derived.JoinedTies
import Derived.KernelRfl
namespace Go.Proofs.Yteblpjhkgdpchaa
/- THE CELL 'sum', in the pinned program and in every row, IS THE sha256 OF THE DUMP (.gsa) THAT YteblpjhkgdpchaaProg.lean LOADS. Nothing in Lean hashes anything: it is a label: what it is worth is what the hold of that sum in a sandbox is worth. -/
noncomputable def Try.pinned : Pinned := { name := "yteblpjhkgdpchaa", sum := "84d54967b67f809edeec5baeb2d080a4bef7dd4efd6e41e5ea2204950096b266", checked := Try.checked }
namespace Rows
def none {H : Type} : Left H := { results := [], args := [] }

/-- 'sluicegatelaw05.DeflateNames': WHATEVER THE INPUT: true; the input reads as it did. -/
def deflateNamesSpec : ChangeSpec := { name := "deflateNames", fn := fun _ => fun
  | [] => { results := [.lit (.bool true)], args := [] }
  | _ => none }
def deflateNamesRow : OpenClaim := { program := "yteblpjhkgdpchaa", sum := "84d54967b67f809edeec5baeb2d080a4bef7dd4efd6e41e5ea2204950096b266", func := "sluicegate/sluicegatelaw05.DeflateNames", spec := "deflateNames", unfollowed := true, recurses := true, plainKeys := false, apart := false }
def DeflateNamesSaid : Prop := deflateNamesRow.holds Try.pinned (OpenSpec.ofChange deflateNamesSpec)

/-- ITS FALSE NEIGHBOUR: 'it returns false'. Refute it at one input. -/
def deflateNamesWrong : ChangeSpec := { name := "deflateNames", fn := fun _ => fun
  | [] => { results := [.lit (.bool false)], args := [] }
  | _ => none }
def DeflateNamesWrongFalsely : Prop := deflateNamesRow.holds Try.pinned (OpenSpec.ofChange deflateNamesWrong)

/-- 'sluicegatelaw05.DeflateCalls': WHATEVER THE INPUT: true; the input reads as it did. -/
def deflateCallsSpec : ChangeSpec := { name := "deflateCalls", fn := fun _ => fun
  | [d] => { results := [.lit (.bool true)], args := [d] }
  | _ => none }
def deflateCallsRow : OpenClaim := { program := "yteblpjhkgdpchaa", sum := "84d54967b67f809edeec5baeb2d080a4bef7dd4efd6e41e5ea2204950096b266", func := "sluicegate/sluicegatelaw05.DeflateCalls", spec := "deflateCalls", unfollowed := true, recurses := true, plainKeys := false, apart := false }
def DeflateCallsSaid : Prop := deflateCallsRow.holds Try.pinned (OpenSpec.ofChange deflateCallsSpec)

/-- ITS FALSE NEIGHBOUR: 'it returns false'. Refute it at one input. -/
def deflateCallsWrong : ChangeSpec := { name := "deflateCalls", fn := fun _ => fun
  | [d] => { results := [.lit (.bool false)], args := [d] }
  | _ => none }
def DeflateCallsWrongFalsely : Prop := deflateCallsRow.holds Try.pinned (OpenSpec.ofChange deflateCallsWrong)

/-- 'sluicegatelaw05.DeflateGreedy': WHATEVER THE INPUT: true; the input reads as it did. -/
def deflateGreedySpec : ChangeSpec := { name := "deflateGreedy", fn := fun _ => fun
  | [d] => { results := [.lit (.bool true)], args := [d] }
  | _ => none }
def deflateGreedyRow : OpenClaim := { program := "yteblpjhkgdpchaa", sum := "84d54967b67f809edeec5baeb2d080a4bef7dd4efd6e41e5ea2204950096b266", func := "sluicegate/sluicegatelaw05.DeflateGreedy", spec := "deflateGreedy", unfollowed := true, recurses := true, plainKeys := false, apart := false }
def DeflateGreedySaid : Prop := deflateGreedyRow.holds Try.pinned (OpenSpec.ofChange deflateGreedySpec)

/-- ITS FALSE NEIGHBOUR: 'it returns false'. Refute it at one input. -/
def deflateGreedyWrong : ChangeSpec := { name := "deflateGreedy", fn := fun _ => fun
  | [d] => { results := [.lit (.bool false)], args := [d] }
  | _ => none }
def DeflateGreedyWrongFalsely : Prop := deflateGreedyRow.holds Try.pinned (OpenSpec.ofChange deflateGreedyWrong)

/-- 'sluicegatelaw05.DeflateBack': WHATEVER THE INPUT: true; the input reads as it did. -/
def deflateBackSpec : ChangeSpec := { name := "deflateBack", fn := fun _ => fun
  | [d] => { results := [.lit (.bool true)], args := [d] }
  | _ => none }
def deflateBackRow : OpenClaim := { program := "yteblpjhkgdpchaa", sum := "84d54967b67f809edeec5baeb2d080a4bef7dd4efd6e41e5ea2204950096b266", func := "sluicegate/sluicegatelaw05.DeflateBack", spec := "deflateBack", unfollowed := true, recurses := true, plainKeys := false, apart := false }
def DeflateBackSaid : Prop := deflateBackRow.holds Try.pinned (OpenSpec.ofChange deflateBackSpec)

/-- ITS FALSE NEIGHBOUR: 'it returns false'. Refute it at one input. -/
def deflateBackWrong : ChangeSpec := { name := "deflateBack", fn := fun _ => fun
  | [d] => { results := [.lit (.bool false)], args := [d] }
  | _ => none }
def DeflateBackWrongFalsely : Prop := deflateBackRow.holds Try.pinned (OpenSpec.ofChange deflateBackWrong)

/-- 'sluicegatelaw05.DeflateAny': WHATEVER THE INPUT: true; the input reads as it did. -/
def deflateAnySpec : ChangeSpec := { name := "deflateAny", fn := fun _ => fun
  | [d] => { results := [.lit (.bool true)], args := [d] }
  | _ => none }
def deflateAnyRow : OpenClaim := { program := "yteblpjhkgdpchaa", sum := "84d54967b67f809edeec5baeb2d080a4bef7dd4efd6e41e5ea2204950096b266", func := "sluicegate/sluicegatelaw05.DeflateAny", spec := "deflateAny", unfollowed := true, recurses := true, plainKeys := false, apart := false }
def DeflateAnySaid : Prop := deflateAnyRow.holds Try.pinned (OpenSpec.ofChange deflateAnySpec)

/-- ITS FALSE NEIGHBOUR: 'it returns false'. Refute it at one input. -/
def deflateAnyWrong : ChangeSpec := { name := "deflateAny", fn := fun _ => fun
  | [d] => { results := [.lit (.bool false)], args := [d] }
  | _ => none }
def DeflateAnyWrongFalsely : Prop := deflateAnyRow.holds Try.pinned (OpenSpec.ofChange deflateAnyWrong)

/- THE SECOND FORM. 'bulk': how many values and letters a reading holds, each counted each time it is reached (what is shared counts as often as it is met; a slice's spare places count too). A statement '..UptoSaid' is the law's where the arguments, and the package variables that the reading takes, are together of bulk at most 1048576: NARROWER than '..Said'. Prove '..Said' where nothing that the law and all that it calls make is longer than what came in: it says more and counts as full. Else prove '..UptoSaid'. A law counts once. -/
mutual
def uptoBulk {H : Type} : DataW H → Nat
  | .lit (.string bytes) => bytes.length + 1
  | .lit _ => 1
  | .nil => 1
  | .ptr d => uptoBulk d + 1
  | .slice elems spare => uptoBulkAll elems + uptoBulkAll spare + 1
  | .agg parts => uptoBulkAll parts + 1
  | .iface _ d => uptoBulk d + 1
  | .map entries => uptoBulkEntries entries + 1
  | .held _ => 1
def uptoBulkAll {H : Type} : List (DataW H) → Nat
  | [] => 0
  | d :: r => uptoBulk d + uptoBulkAll r
def uptoBulkEntries {H : Type} : List (Lit × DataW H) → Nat
  | [] => 0
  | x :: r => uptoBulkEntry x + uptoBulkEntries r
def uptoBulkEntry {H : Type} : Lit × DataW H → Nat
  | (.string bytes, d) => bytes.length + uptoBulk d + 1
  | (_, d) => uptoBulk d + 1
 end
def uptoSmall : (H : Type) → List (DataW H) → Bool := fun _ ds => decide (uptoBulkAll ds ≤ 1048576)
def OpenSpec.upto (s : _root_.Go.ChangeSpec) : _root_.Go.OpenSpec := { _root_.Go.OpenSpec.ofChange s with cond := some uptoSmall }

/-- 'sluicegatelaw05.DeflateNames', WHERE WHAT IT READS IS OF BULK AT MOST 1048576: true; the input reads as it did. -/
def deflateNamesUptoRow : OpenClaim := { program := "yteblpjhkgdpchaa", sum := "84d54967b67f809edeec5baeb2d080a4bef7dd4efd6e41e5ea2204950096b266", func := "sluicegate/sluicegatelaw05.DeflateNames", spec := "deflateNames", unfollowed := true, recurses := true, plainKeys := false, apart := false, narrowed := true }
def DeflateNamesUptoSaid : Prop := deflateNamesUptoRow.holds Try.pinned (OpenSpec.upto deflateNamesSpec)

/-- 'sluicegatelaw05.DeflateCalls', WHERE WHAT IT READS IS OF BULK AT MOST 1048576: true; the input reads as it did. -/
def deflateCallsUptoRow : OpenClaim := { program := "yteblpjhkgdpchaa", sum := "84d54967b67f809edeec5baeb2d080a4bef7dd4efd6e41e5ea2204950096b266", func := "sluicegate/sluicegatelaw05.DeflateCalls", spec := "deflateCalls", unfollowed := true, recurses := true, plainKeys := false, apart := false, narrowed := true }
def DeflateCallsUptoSaid : Prop := deflateCallsUptoRow.holds Try.pinned (OpenSpec.upto deflateCallsSpec)

/-- 'sluicegatelaw05.DeflateGreedy', WHERE WHAT IT READS IS OF BULK AT MOST 1048576: true; the input reads as it did. -/
def deflateGreedyUptoRow : OpenClaim := { program := "yteblpjhkgdpchaa", sum := "84d54967b67f809edeec5baeb2d080a4bef7dd4efd6e41e5ea2204950096b266", func := "sluicegate/sluicegatelaw05.DeflateGreedy", spec := "deflateGreedy", unfollowed := true, recurses := true, plainKeys := false, apart := false, narrowed := true }
def DeflateGreedyUptoSaid : Prop := deflateGreedyUptoRow.holds Try.pinned (OpenSpec.upto deflateGreedySpec)

/-- 'sluicegatelaw05.DeflateBack', WHERE WHAT IT READS IS OF BULK AT MOST 1048576: true; the input reads as it did. -/
def deflateBackUptoRow : OpenClaim := { program := "yteblpjhkgdpchaa", sum := "84d54967b67f809edeec5baeb2d080a4bef7dd4efd6e41e5ea2204950096b266", func := "sluicegate/sluicegatelaw05.DeflateBack", spec := "deflateBack", unfollowed := true, recurses := true, plainKeys := false, apart := false, narrowed := true }
def DeflateBackUptoSaid : Prop := deflateBackUptoRow.holds Try.pinned (OpenSpec.upto deflateBackSpec)

/-- 'sluicegatelaw05.DeflateAny', WHERE WHAT IT READS IS OF BULK AT MOST 1048576: true; the input reads as it did. -/
def deflateAnyUptoRow : OpenClaim := { program := "yteblpjhkgdpchaa", sum := "84d54967b67f809edeec5baeb2d080a4bef7dd4efd6e41e5ea2204950096b266", func := "sluicegate/sluicegatelaw05.DeflateAny", spec := "deflateAny", unfollowed := true, recurses := true, plainKeys := false, apart := false, narrowed := true }
def DeflateAnyUptoSaid : Prop := deflateAnyUptoRow.holds Try.pinned (OpenSpec.upto deflateAnySpec)

end Rows
end Go.Proofs.Yteblpjhkgdpchaa
