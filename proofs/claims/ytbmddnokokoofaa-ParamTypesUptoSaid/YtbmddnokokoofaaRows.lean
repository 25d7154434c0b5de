/-
  No cell of these rows narrows 'for every input' (looked for: loops, veiled, ifaces, maps, wideKeys, modest, calm, conditions, laid).
  DERIVED. THE GIVEN ROWS OF THIS SEAT. 5 by the template 'for every input the law returns true; each argument reads behind the call as it read before'; 0 by the template 'total and deterministic' (their statements: YtbmddnokokoofaaTotals.lean).
  GIVEN WITH THE SEED: the statements are not yours to turn. If you find one false, say at which input.
  Laid BY PROGRAM, IN A SANDBOX (cutbox-rows.mjs): the forced cells as the released guide's own fill.sh prints them over the translation 34d4ae3cb769967f… (all of the seat's roots in one cut). By AI agents, Wed Nov 11 2026. No macro, syntax, notation, axiom, sorry.
-/
import Derived.Test.YtbmddnokokoofaaChecked
import GoSem.Claim
import GoSem.ClaimJoined
import GoSem.ClaimMapViews
import Derived.JoinedTies
import Derived.KernelRfl
namespace Go.Proofs.Ytbmddnokokoofaa
/- THE CELL 'sum', in the pinned program and in every row, IS THE sha256 OF THE DUMP (.gsa) THAT YtbmddnokokoofaaProg.lean LOADS. Nothing in Lean hashes anything: it is a label: what it is worth is what the hold of that sum in a sandbox is worth. -/
noncomputable def Try.pinned : Pinned := { name := "ytbmddnokokoofaa", sum := "34d4ae3cb769967f88af2d2c076015c304145df8ddaf8800a44cd484a2ead7b5", checked := Try.checked }
namespace Rows
def none {H : Type} : Left H := { results := [], args := [] }

/-- 'sluicegatelaw18.ParamNames': WHATEVER THE INPUT: true; the input reads as it did. -/
def paramNamesSpec : ChangeSpec := { name := "paramNames", fn := fun _ => fun
  | [] => { results := [.lit (.bool true)], args := [] }
  | _ => none }
def paramNamesRow : OpenClaim := { program := "ytbmddnokokoofaa", sum := "34d4ae3cb769967f88af2d2c076015c304145df8ddaf8800a44cd484a2ead7b5", func := "sluicegate/sluicegatelaw18.ParamNames", spec := "paramNames", unfollowed := true, recurses := true, apart := false }
def ParamNamesSaid : Prop := paramNamesRow.holds Try.pinned (OpenSpec.ofChange paramNamesSpec)

/-- ITS FALSE NEIGHBOUR: 'it returns false'. Refute it at one input. -/
def paramNamesWrong : ChangeSpec := { name := "paramNames", fn := fun _ => fun
  | [] => { results := [.lit (.bool false)], args := [] }
  | _ => none }
def ParamNamesWrongFalsely : Prop := paramNamesRow.holds Try.pinned (OpenSpec.ofChange paramNamesWrong)

/-- 'sluicegatelaw18.ParamCalls': WHATEVER THE INPUT: true; the input reads as it did. -/
def paramCallsSpec : ChangeSpec := { name := "paramCalls", fn := fun _ => fun
  | [d1, d2, d3] => { results := [.lit (.bool true)], args := [d1, d2, d3] }
  | _ => none }
def paramCallsRow : OpenClaim := { program := "ytbmddnokokoofaa", sum := "34d4ae3cb769967f88af2d2c076015c304145df8ddaf8800a44cd484a2ead7b5", func := "sluicegate/sluicegatelaw18.ParamCalls", spec := "paramCalls", unfollowed := true, recurses := true, apart := false }
def ParamCallsSaid : Prop := paramCallsRow.holds Try.pinned (OpenSpec.ofChange paramCallsSpec)

/-- ITS FALSE NEIGHBOUR: 'it returns false'. Refute it at one input. -/
def paramCallsWrong : ChangeSpec := { name := "paramCalls", fn := fun _ => fun
  | [d1, d2, d3] => { results := [.lit (.bool false)], args := [d1, d2, d3] }
  | _ => none }
def ParamCallsWrongFalsely : Prop := paramCallsRow.holds Try.pinned (OpenSpec.ofChange paramCallsWrong)

/-- 'sluicegatelaw18.ParamReads': WHATEVER THE INPUT: true; the input reads as it did. -/
def paramReadsSpec : ChangeSpec := { name := "paramReads", fn := fun _ => fun
  | [d1, d2, d3, d4] => { results := [.lit (.bool true)], args := [d1, d2, d3, d4] }
  | _ => none }
def paramReadsRow : OpenClaim := { program := "ytbmddnokokoofaa", sum := "34d4ae3cb769967f88af2d2c076015c304145df8ddaf8800a44cd484a2ead7b5", func := "sluicegate/sluicegatelaw18.ParamReads", spec := "paramReads", unfollowed := true, recurses := true, apart := false }
def ParamReadsSaid : Prop := paramReadsRow.holds Try.pinned (OpenSpec.ofChange paramReadsSpec)

/-- ITS FALSE NEIGHBOUR: 'it returns false'. Refute it at one input. -/
def paramReadsWrong : ChangeSpec := { name := "paramReads", fn := fun _ => fun
  | [d1, d2, d3, d4] => { results := [.lit (.bool false)], args := [d1, d2, d3, d4] }
  | _ => none }
def ParamReadsWrongFalsely : Prop := paramReadsRow.holds Try.pinned (OpenSpec.ofChange paramReadsWrong)

/-- 'sluicegatelaw18.ParamBack': WHATEVER THE INPUT: true; the input reads as it did. -/
def paramBackSpec : ChangeSpec := { name := "paramBack", fn := fun _ => fun
  | [d1, d2, d3, d4] => { results := [.lit (.bool true)], args := [d1, d2, d3, d4] }
  | _ => none }
def paramBackRow : OpenClaim := { program := "ytbmddnokokoofaa", sum := "34d4ae3cb769967f88af2d2c076015c304145df8ddaf8800a44cd484a2ead7b5", func := "sluicegate/sluicegatelaw18.ParamBack", spec := "paramBack", unfollowed := true, recurses := true, apart := false }
def ParamBackSaid : Prop := paramBackRow.holds Try.pinned (OpenSpec.ofChange paramBackSpec)

/-- ITS FALSE NEIGHBOUR: 'it returns false'. Refute it at one input. -/
def paramBackWrong : ChangeSpec := { name := "paramBack", fn := fun _ => fun
  | [d1, d2, d3, d4] => { results := [.lit (.bool false)], args := [d1, d2, d3, d4] }
  | _ => none }
def ParamBackWrongFalsely : Prop := paramBackRow.holds Try.pinned (OpenSpec.ofChange paramBackWrong)

/-- 'sluicegatelaw18.ParamTypes': WHATEVER THE INPUT: true; the input reads as it did. -/
def paramTypesSpec : ChangeSpec := { name := "paramTypes", fn := fun _ => fun
  | [d1, d2] => { results := [.lit (.bool true)], args := [d1, d2] }
  | _ => none }
def paramTypesRow : OpenClaim := { program := "ytbmddnokokoofaa", sum := "34d4ae3cb769967f88af2d2c076015c304145df8ddaf8800a44cd484a2ead7b5", func := "sluicegate/sluicegatelaw18.ParamTypes", spec := "paramTypes", unfollowed := true, recurses := true, apart := false }
def ParamTypesSaid : Prop := paramTypesRow.holds Try.pinned (OpenSpec.ofChange paramTypesSpec)

/-- ITS FALSE NEIGHBOUR: 'it returns false'. Refute it at one input. -/
def paramTypesWrong : ChangeSpec := { name := "paramTypes", fn := fun _ => fun
  | [d1, d2] => { results := [.lit (.bool false)], args := [d1, d2] }
  | _ => none }
def ParamTypesWrongFalsely : Prop := paramTypesRow.holds Try.pinned (OpenSpec.ofChange paramTypesWrong)

/- THE SECOND FORM. 'bulk': how many values and letters a reading holds, each counted each time it is reached (what is shared counts as often as it is met; a slice's spare places count too). A statement '..UptoSaid' is the law's where the arguments, and the package variables that the reading takes, are together of bulk at most 1048576: NARROWER than '..Said'. Prove '..Said' where nothing that the law and all that it calls make is longer than what came in: it says more and counts as full. Else prove '..UptoSaid'. A law counts once. -/
mutual
def uptoBulk {H : Type} : DataW H → Nat
  | .lit (.string bytes) => bytes.length + 1
  | .lit _ => 1
  | .nil => 1
  | .ptr d => uptoBulk d + 1
  | .slice elems spare => uptoBulkAll elems + uptoBulkAll spare + 1
  | .agg parts => uptoBulkAll parts + 1
  | .iface _ d => uptoBulk d + 1
  | .map entries => uptoBulkEntries entries + 1
  | .held _ => 1
def uptoBulkAll {H : Type} : List (DataW H) → Nat
  | [] => 0
  | d :: r => uptoBulk d + uptoBulkAll r
def uptoBulkEntries {H : Type} : List (Lit × DataW H) → Nat
  | [] => 0
  | x :: r => uptoBulkEntry x + uptoBulkEntries r
def uptoBulkEntry {H : Type} : Lit × DataW H → Nat
  | (.string bytes, d) => bytes.length + uptoBulk d + 1
  | (_, d) => uptoBulk d + 1
 end
def uptoSmall : (H : Type) → List (DataW H) → Bool := fun _ ds => decide (uptoBulkAll ds ≤ 1048576)
def OpenSpec.upto (s : _root_.Go.ChangeSpec) : _root_.Go.OpenSpec := { _root_.Go.OpenSpec.ofChange s with cond := some uptoSmall }

/-- 'sluicegatelaw18.ParamNames', WHERE WHAT IT READS IS OF BULK AT MOST 1048576: true; the input reads as it did. -/
def paramNamesUptoRow : OpenClaim := { program := "ytbmddnokokoofaa", sum := "34d4ae3cb769967f88af2d2c076015c304145df8ddaf8800a44cd484a2ead7b5", func := "sluicegate/sluicegatelaw18.ParamNames", spec := "paramNames", unfollowed := true, recurses := true, apart := false, narrowed := true }
def ParamNamesUptoSaid : Prop := paramNamesUptoRow.holds Try.pinned (OpenSpec.upto paramNamesSpec)

/-- 'sluicegatelaw18.ParamCalls', WHERE WHAT IT READS IS OF BULK AT MOST 1048576: true; the input reads as it did. -/
def paramCallsUptoRow : OpenClaim := { program := "ytbmddnokokoofaa", sum := "34d4ae3cb769967f88af2d2c076015c304145df8ddaf8800a44cd484a2ead7b5", func := "sluicegate/sluicegatelaw18.ParamCalls", spec := "paramCalls", unfollowed := true, recurses := true, apart := false, narrowed := true }
def ParamCallsUptoSaid : Prop := paramCallsUptoRow.holds Try.pinned (OpenSpec.upto paramCallsSpec)

/-- 'sluicegatelaw18.ParamReads', WHERE WHAT IT READS IS OF BULK AT MOST 1048576: true; the input reads as it did. -/
def paramReadsUptoRow : OpenClaim := { program := "ytbmddnokokoofaa", sum := "34d4ae3cb769967f88af2d2c076015c304145df8ddaf8800a44cd484a2ead7b5", func := "sluicegate/sluicegatelaw18.ParamReads", spec := "paramReads", unfollowed := true, recurses := true, apart := false, narrowed := true }
def ParamReadsUptoSaid : Prop := paramReadsUptoRow.holds Try.pinned (OpenSpec.upto paramReadsSpec)

/-- 'sluicegatelaw18.ParamBack', WHERE WHAT IT READS IS OF BULK AT MOST 1048576: true; the input reads as it did. -/
def paramBackUptoRow : OpenClaim := { program := "ytbmddnokokoofaa", sum := "34d4ae3cb769967f88af2d2c076015c304145df8ddaf8800a44cd484a2ead7b5", func := "sluicegate/sluicegatelaw18.ParamBack", spec := "paramBack", unfollowed := true, recurses := true, apart := false, narrowed := true }
def ParamBackUptoSaid : Prop := paramBackUptoRow.holds Try.pinned (OpenSpec.upto paramBackSpec)

/-- 'sluicegatelaw18.ParamTypes', WHERE WHAT IT READS IS OF BULK AT MOST 1048576: true; the input reads as it did. -/
def paramTypesUptoRow : OpenClaim := { program := "ytbmddnokokoofaa", sum := "34d4ae3cb769967f88af2d2c076015c304145df8ddaf8800a44cd484a2ead7b5", func := "sluicegate/sluicegatelaw18.ParamTypes", spec := "paramTypes", unfollowed := true, recurses := true, apart := false, narrowed := true }
def ParamTypesUptoSaid : Prop := paramTypesUptoRow.holds Try.pinned (OpenSpec.upto paramTypesSpec)

end Rows
end Go.Proofs.Ytbmddnokokoofaa
