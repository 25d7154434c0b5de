/-
  No cell of these rows narrows 'for every input' (looked for: loops, veiled, ifaces, maps, wideKeys, modest, calm, conditions, laid).
  DERIVED. THE GIVEN ROWS OF THIS SEAT. 5 by the template 'for every input the law returns true; each argument reads behind the call as it read before'; 0 by the template 'total and deterministic' (their statements: YtbodincpjijdiaaTotals.lean).
  GIVEN WITH THE SEED: the statements are not yours to turn. If you find one false, say at which input.
  Laid BY PROGRAM, IN A SANDBOX (cutbox-rows.mjs): the forced cells as the released guide's own fill.sh prints them over the translation d081999963d95a8b… (all of the seat's roots in one cut). By AI agents, Wed Nov 11 2026. No macro, syntax, notation, axiom, sorry.
-/
import Derived.Test.YtbodincpjijdiaaChecked
import GoSem.Claim
import GoSem.ClaimJoined
import GoSem.ClaimMapViews
import Derived.JoinedTies
import Derived.KernelRfl
namespace Go.Proofs.Ytbodincpjijdiaa
/- THE CELL 'sum', in the pinned program and in every row, IS THE sha256 OF THE DUMP (.gsa) THAT YtbodincpjijdiaaProg.lean LOADS. Nothing in Lean hashes anything: it is a label: what it is worth is what the hold of that sum in a sandbox is worth. -/
noncomputable def Try.pinned : Pinned := { name := "ytbodincpjijdiaa", sum := "d081999963d95a8bdbf5a0eb2ad44ca00bfa637b93ccdbf28c90483a153db0f9", checked := Try.checked }
namespace Rows
def none {H : Type} : Left H := { results := [], args := [] }

/-- 'sluicegatelaw10.SqueezeCalls': WHATEVER THE INPUT: true; the input reads as it did. -/
def squeezeCallsSpec : ChangeSpec := { name := "squeezeCalls", fn := fun _ => fun
  | [d1, d2, d3, d4] => { results := [.lit (.bool true)], args := [d1, d2, d3, d4] }
  | _ => none }
def squeezeCallsRow : OpenClaim := { program := "ytbodincpjijdiaa", sum := "d081999963d95a8bdbf5a0eb2ad44ca00bfa637b93ccdbf28c90483a153db0f9", func := "sluicegate/sluicegatelaw10.SqueezeCalls", spec := "squeezeCalls", unfollowed := true, recurses := true, plainKeys := false, apart := false }
def SqueezeCallsSaid : Prop := squeezeCallsRow.holds Try.pinned (OpenSpec.ofChange squeezeCallsSpec)

/-- ITS FALSE NEIGHBOUR: 'it returns false'. Refute it at one input. -/
def squeezeCallsWrong : ChangeSpec := { name := "squeezeCalls", fn := fun _ => fun
  | [d1, d2, d3, d4] => { results := [.lit (.bool false)], args := [d1, d2, d3, d4] }
  | _ => none }
def SqueezeCallsWrongFalsely : Prop := squeezeCallsRow.holds Try.pinned (OpenSpec.ofChange squeezeCallsWrong)

/-- 'sluicegatelaw10.SqueezeNames': WHATEVER THE INPUT: true; the input reads as it did. -/
def squeezeNamesSpec : ChangeSpec := { name := "squeezeNames", fn := fun _ => fun
  | [] => { results := [.lit (.bool true)], args := [] }
  | _ => none }
def squeezeNamesRow : OpenClaim := { program := "ytbodincpjijdiaa", sum := "d081999963d95a8bdbf5a0eb2ad44ca00bfa637b93ccdbf28c90483a153db0f9", func := "sluicegate/sluicegatelaw10.SqueezeNames", spec := "squeezeNames", unfollowed := true, recurses := true, plainKeys := false, apart := false }
def SqueezeNamesSaid : Prop := squeezeNamesRow.holds Try.pinned (OpenSpec.ofChange squeezeNamesSpec)

/-- ITS FALSE NEIGHBOUR: 'it returns false'. Refute it at one input. -/
def squeezeNamesWrong : ChangeSpec := { name := "squeezeNames", fn := fun _ => fun
  | [] => { results := [.lit (.bool false)], args := [] }
  | _ => none }
def SqueezeNamesWrongFalsely : Prop := squeezeNamesRow.holds Try.pinned (OpenSpec.ofChange squeezeNamesWrong)

/-- 'sluicegatelaw10.SqueezeBack': WHATEVER THE INPUT: true; the input reads as it did. -/
def squeezeBackSpec : ChangeSpec := { name := "squeezeBack", fn := fun _ => fun
  | [d1, d2, d3, d4, d5] => { results := [.lit (.bool true)], args := [d1, d2, d3, d4, d5] }
  | _ => none }
def squeezeBackRow : OpenClaim := { program := "ytbodincpjijdiaa", sum := "d081999963d95a8bdbf5a0eb2ad44ca00bfa637b93ccdbf28c90483a153db0f9", func := "sluicegate/sluicegatelaw10.SqueezeBack", spec := "squeezeBack", unfollowed := true, recurses := true, plainKeys := false, apart := false }
def SqueezeBackSaid : Prop := squeezeBackRow.holds Try.pinned (OpenSpec.ofChange squeezeBackSpec)

/-- ITS FALSE NEIGHBOUR: 'it returns false'. Refute it at one input. -/
def squeezeBackWrong : ChangeSpec := { name := "squeezeBack", fn := fun _ => fun
  | [d1, d2, d3, d4, d5] => { results := [.lit (.bool false)], args := [d1, d2, d3, d4, d5] }
  | _ => none }
def SqueezeBackWrongFalsely : Prop := squeezeBackRow.holds Try.pinned (OpenSpec.ofChange squeezeBackWrong)

/-- 'sluicegatelaw10.SqueezeNil': WHATEVER THE INPUT: true; the input reads as it did. -/
def squeezeNilSpec : ChangeSpec := { name := "squeezeNil", fn := fun _ => fun
  | [d1, d2] => { results := [.lit (.bool true)], args := [d1, d2] }
  | _ => none }
def squeezeNilRow : OpenClaim := { program := "ytbodincpjijdiaa", sum := "d081999963d95a8bdbf5a0eb2ad44ca00bfa637b93ccdbf28c90483a153db0f9", func := "sluicegate/sluicegatelaw10.SqueezeNil", spec := "squeezeNil", unfollowed := true, recurses := true, plainKeys := false, apart := false }
def SqueezeNilSaid : Prop := squeezeNilRow.holds Try.pinned (OpenSpec.ofChange squeezeNilSpec)

/-- ITS FALSE NEIGHBOUR: 'it returns false'. Refute it at one input. -/
def squeezeNilWrong : ChangeSpec := { name := "squeezeNil", fn := fun _ => fun
  | [d1, d2] => { results := [.lit (.bool false)], args := [d1, d2] }
  | _ => none }
def SqueezeNilWrongFalsely : Prop := squeezeNilRow.holds Try.pinned (OpenSpec.ofChange squeezeNilWrong)

/-- 'sluicegatelaw10.SqueezeFrames': WHATEVER THE INPUT: true; the input reads as it did. -/
def squeezeFramesSpec : ChangeSpec := { name := "squeezeFrames", fn := fun _ => fun
  | [d1, d2, d3, d4] => { results := [.lit (.bool true)], args := [d1, d2, d3, d4] }
  | _ => none }
def squeezeFramesRow : OpenClaim := { program := "ytbodincpjijdiaa", sum := "d081999963d95a8bdbf5a0eb2ad44ca00bfa637b93ccdbf28c90483a153db0f9", func := "sluicegate/sluicegatelaw10.SqueezeFrames", spec := "squeezeFrames", unfollowed := true, recurses := true, plainKeys := false, apart := false }
def SqueezeFramesSaid : Prop := squeezeFramesRow.holds Try.pinned (OpenSpec.ofChange squeezeFramesSpec)

/-- ITS FALSE NEIGHBOUR: 'it returns false'. Refute it at one input. -/
def squeezeFramesWrong : ChangeSpec := { name := "squeezeFrames", fn := fun _ => fun
  | [d1, d2, d3, d4] => { results := [.lit (.bool false)], args := [d1, d2, d3, d4] }
  | _ => none }
def SqueezeFramesWrongFalsely : Prop := squeezeFramesRow.holds Try.pinned (OpenSpec.ofChange squeezeFramesWrong)

/- THE SECOND FORM. 'bulk': how many values and letters a reading holds, each counted each time it is reached (what is shared counts as often as it is met; a slice's spare places count too). A statement '..UptoSaid' is the law's where the arguments, and the package variables that the reading takes, are together of bulk at most 1048576: NARROWER than '..Said'. Prove '..Said' where nothing that the law and all that it calls make is longer than what came in: it says more and counts as full. Else prove '..UptoSaid'. A law counts once. -/
mutual
def uptoBulk {H : Type} : DataW H → Nat
  | .lit (.string bytes) => bytes.length + 1
  | .lit _ => 1
  | .nil => 1
  | .ptr d => uptoBulk d + 1
  | .slice elems spare => uptoBulkAll elems + uptoBulkAll spare + 1
  | .agg parts => uptoBulkAll parts + 1
  | .iface _ d => uptoBulk d + 1
  | .map entries => uptoBulkEntries entries + 1
  | .held _ => 1
def uptoBulkAll {H : Type} : List (DataW H) → Nat
  | [] => 0
  | d :: r => uptoBulk d + uptoBulkAll r
def uptoBulkEntries {H : Type} : List (Lit × DataW H) → Nat
  | [] => 0
  | x :: r => uptoBulkEntry x + uptoBulkEntries r
def uptoBulkEntry {H : Type} : Lit × DataW H → Nat
  | (.string bytes, d) => bytes.length + uptoBulk d + 1
  | (_, d) => uptoBulk d + 1
 end
def uptoSmall : (H : Type) → List (DataW H) → Bool := fun _ ds => decide (uptoBulkAll ds ≤ 1048576)
def OpenSpec.upto (s : _root_.Go.ChangeSpec) : _root_.Go.OpenSpec := { _root_.Go.OpenSpec.ofChange s with cond := some uptoSmall }

/-- 'sluicegatelaw10.SqueezeCalls', WHERE WHAT IT READS IS OF BULK AT MOST 1048576: true; the input reads as it did. -/
def squeezeCallsUptoRow : OpenClaim := { program := "ytbodincpjijdiaa", sum := "d081999963d95a8bdbf5a0eb2ad44ca00bfa637b93ccdbf28c90483a153db0f9", func := "sluicegate/sluicegatelaw10.SqueezeCalls", spec := "squeezeCalls", unfollowed := true, recurses := true, plainKeys := false, apart := false, narrowed := true }
def SqueezeCallsUptoSaid : Prop := squeezeCallsUptoRow.holds Try.pinned (OpenSpec.upto squeezeCallsSpec)

/-- 'sluicegatelaw10.SqueezeNames', WHERE WHAT IT READS IS OF BULK AT MOST 1048576: true; the input reads as it did. -/
def squeezeNamesUptoRow : OpenClaim := { program := "ytbodincpjijdiaa", sum := "d081999963d95a8bdbf5a0eb2ad44ca00bfa637b93ccdbf28c90483a153db0f9", func := "sluicegate/sluicegatelaw10.SqueezeNames", spec := "squeezeNames", unfollowed := true, recurses := true, plainKeys := false, apart := false, narrowed := true }
def SqueezeNamesUptoSaid : Prop := squeezeNamesUptoRow.holds Try.pinned (OpenSpec.upto squeezeNamesSpec)

/-- 'sluicegatelaw10.SqueezeBack', WHERE WHAT IT READS IS OF BULK AT MOST 1048576: true; the input reads as it did. -/
def squeezeBackUptoRow : OpenClaim := { program := "ytbodincpjijdiaa", sum := "d081999963d95a8bdbf5a0eb2ad44ca00bfa637b93ccdbf28c90483a153db0f9", func := "sluicegate/sluicegatelaw10.SqueezeBack", spec := "squeezeBack", unfollowed := true, recurses := true, plainKeys := false, apart := false, narrowed := true }
def SqueezeBackUptoSaid : Prop := squeezeBackUptoRow.holds Try.pinned (OpenSpec.upto squeezeBackSpec)

/-- 'sluicegatelaw10.SqueezeNil', WHERE WHAT IT READS IS OF BULK AT MOST 1048576: true; the input reads as it did. -/
def squeezeNilUptoRow : OpenClaim := { program := "ytbodincpjijdiaa", sum := "d081999963d95a8bdbf5a0eb2ad44ca00bfa637b93ccdbf28c90483a153db0f9", func := "sluicegate/sluicegatelaw10.SqueezeNil", spec := "squeezeNil", unfollowed := true, recurses := true, plainKeys := false, apart := false, narrowed := true }
def SqueezeNilUptoSaid : Prop := squeezeNilUptoRow.holds Try.pinned (OpenSpec.upto squeezeNilSpec)

/-- 'sluicegatelaw10.SqueezeFrames', WHERE WHAT IT READS IS OF BULK AT MOST 1048576: true; the input reads as it did. -/
def squeezeFramesUptoRow : OpenClaim := { program := "ytbodincpjijdiaa", sum := "d081999963d95a8bdbf5a0eb2ad44ca00bfa637b93ccdbf28c90483a153db0f9", func := "sluicegate/sluicegatelaw10.SqueezeFrames", spec := "squeezeFrames", unfollowed := true, recurses := true, plainKeys := false, apart := false, narrowed := true }
def SqueezeFramesUptoSaid : Prop := squeezeFramesUptoRow.holds Try.pinned (OpenSpec.upto squeezeFramesSpec)

end Rows
end Go.Proofs.Ytbodincpjijdiaa
