/-
  No cell of these rows narrows 'for every input' (looked for: loops, veiled, ifaces, maps, wideKeys, modest, calm, conditions, laid).
  DERIVED. THE GIVEN ROWS OF THIS SEAT. 4 by the template 'for every input the law returns true; each argument reads behind the call as it read before'; 0 by the template 'total and deterministic' (their statements: YtacgdhhappedoaaTotals.lean).
  GIVEN WITH THE SEED: the statements are not yours to turn. If you find one false, say at which input.
  Laid BY PROGRAM, IN A SANDBOX (cutbox-rows.mjs): the forced cells as the released guide's own fill.sh prints them over the translation c3c679be96ffa6e3… (all of the seat's roots in one cut). By AI agents, Wed Nov 11 2026. No macro, syntax, notation, axiom, sorry.
-/
import Derived.Test.YtacgdhhappedoaaChecked
import GoSem.Claim
import GoSem.ClaimJoined
import GoSem.ClaimMapViews
import Derived.JoinedTies
import Derived.KernelRfl
namespace Go.Proofs.Ytacgdhhappedoaa
/- THE CELL 'sum', in the pinned program and in every row, IS THE sha256 OF THE DUMP (.gsa) THAT YtacgdhhappedoaaProg.lean LOADS. Nothing in Lean hashes anything: it is a label: what it is worth is what the hold of that sum in a sandbox is worth. -/
noncomputable def Try.pinned : Pinned := { name := "ytacgdhhappedoaa", sum := "c3c679be96ffa6e3bbd281f292c8301789ce027b7ae188328ec6713d184efa51", checked := Try.checked }
namespace Rows
def none {H : Type} : Left H := { results := [], args := [] }

/-- 'sluicegatelaw02.AdlerJoins': WHATEVER THE INPUT: true; the input reads as it did. -/
def adlerJoinsSpec : ChangeSpec := { name := "adlerJoins", fn := fun _ => fun
  | [d1, d2, d3] => { results := [.lit (.bool true)], args := [d1, d2, d3] }
  | _ => none }
def adlerJoinsRow : OpenClaim := { program := "ytacgdhhappedoaa", sum := "c3c679be96ffa6e3bbd281f292c8301789ce027b7ae188328ec6713d184efa51", func := "sluicegate/sluicegatelaw02.AdlerJoins", spec := "adlerJoins", apart := false }
def AdlerJoinsSaid : Prop := adlerJoinsRow.holds Try.pinned (OpenSpec.ofChange adlerJoinsSpec)

/-- ITS FALSE NEIGHBOUR: 'it returns false'. Refute it at one input. -/
def adlerJoinsWrong : ChangeSpec := { name := "adlerJoins", fn := fun _ => fun
  | [d1, d2, d3] => { results := [.lit (.bool false)], args := [d1, d2, d3] }
  | _ => none }
def AdlerJoinsWrongFalsely : Prop := adlerJoinsRow.holds Try.pinned (OpenSpec.ofChange adlerJoinsWrong)

/-- 'sluicegatelaw02.AdlerByte': WHATEVER THE INPUT: true; the input reads as it did. -/
def adlerByteSpec : ChangeSpec := { name := "adlerByte", fn := fun _ => fun
  | [d1, d2, d3] => { results := [.lit (.bool true)], args := [d1, d2, d3] }
  | _ => none }
def adlerByteRow : OpenClaim := { program := "ytacgdhhappedoaa", sum := "c3c679be96ffa6e3bbd281f292c8301789ce027b7ae188328ec6713d184efa51", func := "sluicegate/sluicegatelaw02.AdlerByte", spec := "adlerByte", apart := false }
def AdlerByteSaid : Prop := adlerByteRow.holds Try.pinned (OpenSpec.ofChange adlerByteSpec)

/-- ITS FALSE NEIGHBOUR: 'it returns false'. Refute it at one input. -/
def adlerByteWrong : ChangeSpec := { name := "adlerByte", fn := fun _ => fun
  | [d1, d2, d3] => { results := [.lit (.bool false)], args := [d1, d2, d3] }
  | _ => none }
def AdlerByteWrongFalsely : Prop := adlerByteRow.holds Try.pinned (OpenSpec.ofChange adlerByteWrong)

/-- 'sluicegatelaw02.AdlerNames': WHATEVER THE INPUT: true; the input reads as it did. -/
def adlerNamesSpec : ChangeSpec := { name := "adlerNames", fn := fun _ => fun
  | [] => { results := [.lit (.bool true)], args := [] }
  | _ => none }
def adlerNamesRow : OpenClaim := { program := "ytacgdhhappedoaa", sum := "c3c679be96ffa6e3bbd281f292c8301789ce027b7ae188328ec6713d184efa51", func := "sluicegate/sluicegatelaw02.AdlerNames", spec := "adlerNames", apart := false }
def AdlerNamesSaid : Prop := adlerNamesRow.holds Try.pinned (OpenSpec.ofChange adlerNamesSpec)

/-- ITS FALSE NEIGHBOUR: 'it returns false'. Refute it at one input. -/
def adlerNamesWrong : ChangeSpec := { name := "adlerNames", fn := fun _ => fun
  | [] => { results := [.lit (.bool false)], args := [] }
  | _ => none }
def AdlerNamesWrongFalsely : Prop := adlerNamesRow.holds Try.pinned (OpenSpec.ofChange adlerNamesWrong)

/-- 'sluicegatelaw02.AdlerWindow': WHATEVER THE INPUT: true; the input reads as it did. -/
def adlerWindowSpec : ChangeSpec := { name := "adlerWindow", fn := fun _ => fun
  | [d1, d2] => { results := [.lit (.bool true)], args := [d1, d2] }
  | _ => none }
def adlerWindowRow : OpenClaim := { program := "ytacgdhhappedoaa", sum := "c3c679be96ffa6e3bbd281f292c8301789ce027b7ae188328ec6713d184efa51", func := "sluicegate/sluicegatelaw02.AdlerWindow", spec := "adlerWindow", apart := false }
def AdlerWindowSaid : Prop := adlerWindowRow.holds Try.pinned (OpenSpec.ofChange adlerWindowSpec)

/-- ITS FALSE NEIGHBOUR: 'it returns false'. Refute it at one input. -/
def adlerWindowWrong : ChangeSpec := { name := "adlerWindow", fn := fun _ => fun
  | [d1, d2] => { results := [.lit (.bool false)], args := [d1, d2] }
  | _ => none }
def AdlerWindowWrongFalsely : Prop := adlerWindowRow.holds Try.pinned (OpenSpec.ofChange adlerWindowWrong)

/- THE SECOND FORM. 'bulk': how many values and letters a reading holds, each counted each time it is reached (what is shared counts as often as it is met; a slice's spare places count too). A statement '..UptoSaid' is the law's where the arguments, and the package variables that the reading takes, are together of bulk at most 1048576: NARROWER than '..Said'. Prove '..Said' where nothing that the law and all that it calls make is longer than what came in: it says more and counts as full. Else prove '..UptoSaid'. A law counts once. -/
mutual
def uptoBulk {H : Type} : DataW H → Nat
  | .lit (.string bytes) => bytes.length + 1
  | .lit _ => 1
  | .nil => 1
  | .ptr d => uptoBulk d + 1
  | .slice elems spare => uptoBulkAll elems + uptoBulkAll spare + 1
  | .agg parts => uptoBulkAll parts + 1
  | .iface _ d => uptoBulk d + 1
  | .map entries => uptoBulkEntries entries + 1
  | .held _ => 1
def uptoBulkAll {H : Type} : List (DataW H) → Nat
  | [] => 0
  | d :: r => uptoBulk d + uptoBulkAll r
def uptoBulkEntries {H : Type} : List (Lit × DataW H) → Nat
  | [] => 0
  | x :: r => uptoBulkEntry x + uptoBulkEntries r
def uptoBulkEntry {H : Type} : Lit × DataW H → Nat
  | (.string bytes, d) => bytes.length + uptoBulk d + 1
  | (_, d) => uptoBulk d + 1
 end
def uptoSmall : (H : Type) → List (DataW H) → Bool := fun _ ds => decide (uptoBulkAll ds ≤ 1048576)
def OpenSpec.upto (s : _root_.Go.ChangeSpec) : _root_.Go.OpenSpec := { _root_.Go.OpenSpec.ofChange s with cond := some uptoSmall }

/-- 'sluicegatelaw02.AdlerJoins', WHERE WHAT IT READS IS OF BULK AT MOST 1048576: true; the input reads as it did. -/
def adlerJoinsUptoRow : OpenClaim := { program := "ytacgdhhappedoaa", sum := "c3c679be96ffa6e3bbd281f292c8301789ce027b7ae188328ec6713d184efa51", func := "sluicegate/sluicegatelaw02.AdlerJoins", spec := "adlerJoins", apart := false, narrowed := true }
def AdlerJoinsUptoSaid : Prop := adlerJoinsUptoRow.holds Try.pinned (OpenSpec.upto adlerJoinsSpec)

/-- 'sluicegatelaw02.AdlerByte', WHERE WHAT IT READS IS OF BULK AT MOST 1048576: true; the input reads as it did. -/
def adlerByteUptoRow : OpenClaim := { program := "ytacgdhhappedoaa", sum := "c3c679be96ffa6e3bbd281f292c8301789ce027b7ae188328ec6713d184efa51", func := "sluicegate/sluicegatelaw02.AdlerByte", spec := "adlerByte", apart := false, narrowed := true }
def AdlerByteUptoSaid : Prop := adlerByteUptoRow.holds Try.pinned (OpenSpec.upto adlerByteSpec)

/-- 'sluicegatelaw02.AdlerNames', WHERE WHAT IT READS IS OF BULK AT MOST 1048576: true; the input reads as it did. -/
def adlerNamesUptoRow : OpenClaim := { program := "ytacgdhhappedoaa", sum := "c3c679be96ffa6e3bbd281f292c8301789ce027b7ae188328ec6713d184efa51", func := "sluicegate/sluicegatelaw02.AdlerNames", spec := "adlerNames", apart := false, narrowed := true }
def AdlerNamesUptoSaid : Prop := adlerNamesUptoRow.holds Try.pinned (OpenSpec.upto adlerNamesSpec)

/-- 'sluicegatelaw02.AdlerWindow', WHERE WHAT IT READS IS OF BULK AT MOST 1048576: true; the input reads as it did. -/
def adlerWindowUptoRow : OpenClaim := { program := "ytacgdhhappedoaa", sum := "c3c679be96ffa6e3bbd281f292c8301789ce027b7ae188328ec6713d184efa51", func := "sluicegate/sluicegatelaw02.AdlerWindow", spec := "adlerWindow", apart := false, narrowed := true }
def AdlerWindowUptoSaid : Prop := adlerWindowUptoRow.holds Try.pinned (OpenSpec.upto adlerWindowSpec)

end Rows
end Go.Proofs.Ytacgdhhappedoaa
