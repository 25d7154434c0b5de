/-
  No cell of these rows narrows 'for every input' (looked for: loops, veiled, ifaces, maps, wideKeys, modest, calm, conditions, laid).
  DERIVED. THE GIVEN ROWS OF THIS SEAT. 5 by the template 'for every input the law returns true; each argument reads behind the call as it read before'; 0 by the template 'total and deterministic' (their statements: YtikleidhmekgnaaTotals.lean).
  GIVEN WITH THE SEED: the statements are not yours to turn. If you find one false, say at which input.
  Laid BY PROGRAM, IN A SANDBOX (cutbox-rows.mjs): the forced cells as the released guide's own fill.sh prints them over the translation 8c73fae622d7446e… (all of the seat's roots in one cut). By AI agents, Wed Nov 11 2026. No macro, syntax, notation, axiom, sorry.
-/
import Derived.Test.YtikleidhmekgnaaChecked
import GoSem.Claim
import GoSem.ClaimJoined
import GoSem.ClaimMapViews
import Derived.JoinedTies
import Derived.KernelRfl
namespace Go.Proofs.Ytikleidhmekgnaa
/- THE CELL 'sum', in the pinned program and in every row, IS THE sha256 OF THE DUMP (.gsa) THAT YtikleidhmekgnaaProg.lean LOADS. Nothing in Lean hashes anything: it is a label: what it is worth is what the hold of that sum in a sandbox is worth. -/
noncomputable def Try.pinned : Pinned := { name := "ytikleidhmekgnaa", sum := "8c73fae622d7446e67a4ab87ea60358d367319884956b10db71789e2d181e8e3", checked := Try.checked }
namespace Rows
def none {H : Type} : Left H := { results := [], args := [] }

/-- 'sluicegatelaw03.HuffmanNames': WHATEVER THE INPUT: true; the input reads as it did. -/
def huffmanNamesSpec : ChangeSpec := { name := "huffmanNames", fn := fun _ => fun
  | [] => { results := [.lit (.bool true)], args := [] }
  | _ => none }
def huffmanNamesRow : OpenClaim := { program := "ytikleidhmekgnaa", sum := "8c73fae622d7446e67a4ab87ea60358d367319884956b10db71789e2d181e8e3", func := "sluicegate/sluicegatelaw03.HuffmanNames", spec := "huffmanNames", unfollowed := true, recurses := true, apart := false }
def HuffmanNamesSaid : Prop := huffmanNamesRow.holds Try.pinned (OpenSpec.ofChange huffmanNamesSpec)

/-- ITS FALSE NEIGHBOUR: 'it returns false'. Refute it at one input. -/
def huffmanNamesWrong : ChangeSpec := { name := "huffmanNames", fn := fun _ => fun
  | [] => { results := [.lit (.bool false)], args := [] }
  | _ => none }
def HuffmanNamesWrongFalsely : Prop := huffmanNamesRow.holds Try.pinned (OpenSpec.ofChange huffmanNamesWrong)

/-- 'sluicegatelaw03.HuffmanWrites': WHATEVER THE INPUT: true; the input reads as it did. -/
def huffmanWritesSpec : ChangeSpec := { name := "huffmanWrites", fn := fun _ => fun
  | [d1, d2] => { results := [.lit (.bool true)], args := [d1, d2] }
  | _ => none }
def huffmanWritesRow : OpenClaim := { program := "ytikleidhmekgnaa", sum := "8c73fae622d7446e67a4ab87ea60358d367319884956b10db71789e2d181e8e3", func := "sluicegate/sluicegatelaw03.HuffmanWrites", spec := "huffmanWrites", unfollowed := true, recurses := true, apart := false }
def HuffmanWritesSaid : Prop := huffmanWritesRow.holds Try.pinned (OpenSpec.ofChange huffmanWritesSpec)

/-- ITS FALSE NEIGHBOUR: 'it returns false'. Refute it at one input. -/
def huffmanWritesWrong : ChangeSpec := { name := "huffmanWrites", fn := fun _ => fun
  | [d1, d2] => { results := [.lit (.bool false)], args := [d1, d2] }
  | _ => none }
def HuffmanWritesWrongFalsely : Prop := huffmanWritesRow.holds Try.pinned (OpenSpec.ofChange huffmanWritesWrong)

/-- 'sluicegatelaw03.HuffmanPrefix': WHATEVER THE INPUT: true; the input reads as it did. -/
def huffmanPrefixSpec : ChangeSpec := { name := "huffmanPrefix", fn := fun _ => fun
  | [d1, d2] => { results := [.lit (.bool true)], args := [d1, d2] }
  | _ => none }
def huffmanPrefixRow : OpenClaim := { program := "ytikleidhmekgnaa", sum := "8c73fae622d7446e67a4ab87ea60358d367319884956b10db71789e2d181e8e3", func := "sluicegate/sluicegatelaw03.HuffmanPrefix", spec := "huffmanPrefix", unfollowed := true, recurses := true, apart := false }
def HuffmanPrefixSaid : Prop := huffmanPrefixRow.holds Try.pinned (OpenSpec.ofChange huffmanPrefixSpec)

/-- ITS FALSE NEIGHBOUR: 'it returns false'. Refute it at one input. -/
def huffmanPrefixWrong : ChangeSpec := { name := "huffmanPrefix", fn := fun _ => fun
  | [d1, d2] => { results := [.lit (.bool false)], args := [d1, d2] }
  | _ => none }
def HuffmanPrefixWrongFalsely : Prop := huffmanPrefixRow.holds Try.pinned (OpenSpec.ofChange huffmanPrefixWrong)

/-- 'sluicegatelaw03.HuffmanCalls': WHATEVER THE INPUT: true; the input reads as it did. -/
def huffmanCallsSpec : ChangeSpec := { name := "huffmanCalls", fn := fun _ => fun
  | [d1, d2, d3] => { results := [.lit (.bool true)], args := [d1, d2, d3] }
  | _ => none }
def huffmanCallsRow : OpenClaim := { program := "ytikleidhmekgnaa", sum := "8c73fae622d7446e67a4ab87ea60358d367319884956b10db71789e2d181e8e3", func := "sluicegate/sluicegatelaw03.HuffmanCalls", spec := "huffmanCalls", unfollowed := true, recurses := true, apart := false }
def HuffmanCallsSaid : Prop := huffmanCallsRow.holds Try.pinned (OpenSpec.ofChange huffmanCallsSpec)

/-- ITS FALSE NEIGHBOUR: 'it returns false'. Refute it at one input. -/
def huffmanCallsWrong : ChangeSpec := { name := "huffmanCalls", fn := fun _ => fun
  | [d1, d2, d3] => { results := [.lit (.bool false)], args := [d1, d2, d3] }
  | _ => none }
def HuffmanCallsWrongFalsely : Prop := huffmanCallsRow.holds Try.pinned (OpenSpec.ofChange huffmanCallsWrong)

/-- 'sluicegatelaw03.HuffmanBack': WHATEVER THE INPUT: true; the input reads as it did. -/
def huffmanBackSpec : ChangeSpec := { name := "huffmanBack", fn := fun _ => fun
  | [d1, d2] => { results := [.lit (.bool true)], args := [d1, d2] }
  | _ => none }
def huffmanBackRow : OpenClaim := { program := "ytikleidhmekgnaa", sum := "8c73fae622d7446e67a4ab87ea60358d367319884956b10db71789e2d181e8e3", func := "sluicegate/sluicegatelaw03.HuffmanBack", spec := "huffmanBack", unfollowed := true, recurses := true, apart := false }
def HuffmanBackSaid : Prop := huffmanBackRow.holds Try.pinned (OpenSpec.ofChange huffmanBackSpec)

/-- ITS FALSE NEIGHBOUR: 'it returns false'. Refute it at one input. -/
def huffmanBackWrong : ChangeSpec := { name := "huffmanBack", fn := fun _ => fun
  | [d1, d2] => { results := [.lit (.bool false)], args := [d1, d2] }
  | _ => none }
def HuffmanBackWrongFalsely : Prop := huffmanBackRow.holds Try.pinned (OpenSpec.ofChange huffmanBackWrong)

/- THE SECOND FORM. 'bulk': how many values and letters a reading holds, each counted each time it is reached (what is shared counts as often as it is met; a slice's spare places count too). A statement '..UptoSaid' is the law's where the arguments, and the package variables that the reading takes, are together of bulk at most 1048576: NARROWER than '..Said'. Prove '..Said' where nothing that the law and all that it calls make is longer than what came in: it says more and counts as full. Else prove '..UptoSaid'. A law counts once. -/
mutual
def uptoBulk {H : Type} : DataW H → Nat
  | .lit (.string bytes) => bytes.length + 1
  | .lit _ => 1
  | .nil => 1
  | .ptr d => uptoBulk d + 1
  | .slice elems spare => uptoBulkAll elems + uptoBulkAll spare + 1
  | .agg parts => uptoBulkAll parts + 1
  | .iface _ d => uptoBulk d + 1
  | .map entries => uptoBulkEntries entries + 1
  | .held _ => 1
def uptoBulkAll {H : Type} : List (DataW H) → Nat
  | [] => 0
  | d :: r => uptoBulk d + uptoBulkAll r
def uptoBulkEntries {H : Type} : List (Lit × DataW H) → Nat
  | [] => 0
  | x :: r => uptoBulkEntry x + uptoBulkEntries r
def uptoBulkEntry {H : Type} : Lit × DataW H → Nat
  | (.string bytes, d) => bytes.length + uptoBulk d + 1
  | (_, d) => uptoBulk d + 1
 end
def uptoSmall : (H : Type) → List (DataW H) → Bool := fun _ ds => decide (uptoBulkAll ds ≤ 1048576)
def OpenSpec.upto (s : _root_.Go.ChangeSpec) : _root_.Go.OpenSpec := { _root_.Go.OpenSpec.ofChange s with cond := some uptoSmall }

/-- 'sluicegatelaw03.HuffmanNames', WHERE WHAT IT READS IS OF BULK AT MOST 1048576: true; the input reads as it did. -/
def huffmanNamesUptoRow : OpenClaim := { program := "ytikleidhmekgnaa", sum := "8c73fae622d7446e67a4ab87ea60358d367319884956b10db71789e2d181e8e3", func := "sluicegate/sluicegatelaw03.HuffmanNames", spec := "huffmanNames", unfollowed := true, recurses := true, apart := false, narrowed := true }
def HuffmanNamesUptoSaid : Prop := huffmanNamesUptoRow.holds Try.pinned (OpenSpec.upto huffmanNamesSpec)

/-- 'sluicegatelaw03.HuffmanWrites', WHERE WHAT IT READS IS OF BULK AT MOST 1048576: true; the input reads as it did. -/
def huffmanWritesUptoRow : OpenClaim := { program := "ytikleidhmekgnaa", sum := "8c73fae622d7446e67a4ab87ea60358d367319884956b10db71789e2d181e8e3", func := "sluicegate/sluicegatelaw03.HuffmanWrites", spec := "huffmanWrites", unfollowed := true, recurses := true, apart := false, narrowed := true }
def HuffmanWritesUptoSaid : Prop := huffmanWritesUptoRow.holds Try.pinned (OpenSpec.upto huffmanWritesSpec)

/-- 'sluicegatelaw03.HuffmanPrefix', WHERE WHAT IT READS IS OF BULK AT MOST 1048576: true; the input reads as it did. -/
def huffmanPrefixUptoRow : OpenClaim := { program := "ytikleidhmekgnaa", sum := "8c73fae622d7446e67a4ab87ea60358d367319884956b10db71789e2d181e8e3", func := "sluicegate/sluicegatelaw03.HuffmanPrefix", spec := "huffmanPrefix", unfollowed := true, recurses := true, apart := false, narrowed := true }
def HuffmanPrefixUptoSaid : Prop := huffmanPrefixUptoRow.holds Try.pinned (OpenSpec.upto huffmanPrefixSpec)

/-- 'sluicegatelaw03.HuffmanCalls', WHERE WHAT IT READS IS OF BULK AT MOST 1048576: true; the input reads as it did. -/
def huffmanCallsUptoRow : OpenClaim := { program := "ytikleidhmekgnaa", sum := "8c73fae622d7446e67a4ab87ea60358d367319884956b10db71789e2d181e8e3", func := "sluicegate/sluicegatelaw03.HuffmanCalls", spec := "huffmanCalls", unfollowed := true, recurses := true, apart := false, narrowed := true }
def HuffmanCallsUptoSaid : Prop := huffmanCallsUptoRow.holds Try.pinned (OpenSpec.upto huffmanCallsSpec)

/-- 'sluicegatelaw03.HuffmanBack', WHERE WHAT IT READS IS OF BULK AT MOST 1048576: true; the input reads as it did. -/
def huffmanBackUptoRow : OpenClaim := { program := "ytikleidhmekgnaa", sum := "8c73fae622d7446e67a4ab87ea60358d367319884956b10db71789e2d181e8e3", func := "sluicegate/sluicegatelaw03.HuffmanBack", spec := "huffmanBack", unfollowed := true, recurses := true, apart := false, narrowed := true }
def HuffmanBackUptoSaid : Prop := huffmanBackUptoRow.holds Try.pinned (OpenSpec.upto huffmanBackSpec)

end Rows
end Go.Proofs.Ytikleidhmekgnaa
