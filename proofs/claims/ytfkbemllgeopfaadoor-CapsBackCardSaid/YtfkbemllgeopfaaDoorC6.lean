/- Plain: bits' names; closed calls. -/
import Derived.Test.YtfkbemllgeopfaaDoorC3
namespace Go.Proofs.YtfkbemllgeopfaaDoor
open Go.AM
set_option linter.unusedSimpArgs false
set_option linter.unusedVariables false

/-- a number below 100, written -/
def dig (k : Nat) : List UInt8 := if k < 10 then [UInt8.ofNat (48 + k)] else [UInt8.ofNat (48 + k / 10), UInt8.ofNat (48 + k % 10)]
/-- a bit without a name -/
def bitN (k : Nat) : List UInt8 := [98, 105, 116, 45] ++ dig k
/-- a bit's name -/
def nm (k : Nat) : List UInt8 := if h : k < nmL.length then nmL[k] else bitN k

theorem itoa_ev {k : Nat} (hk : k < 32) (H : AM.Heap) : Ev1 X 25 [.int .i64 (k : Nat)] H (.str (dig k), H) :=
  Ev1.each (T := fun _ _ _ => none) Below.none (n := 100) (f := 25) (N := 32) (a := fun k => .int .i64 (k : Nat)) (v := fun k => .str (dig k)) (by kernel_rfl) (fun _ => rfl) hk H

theorem bit_ev {k : Nat} (hk : k < 32) (H : AM.Heap) : Ev1 X 29 [.int .i64 (k : Nat)] H (.str (bitN k), H) :=
  Ev1.each (T := fun _ _ _ => none) Below.none (n := 100) (f := 29) (N := 32) (a := fun k => .int .i64 (k : Nat)) (v := fun k => .str (bitN k)) (by kernel_rfl) (fun _ => rfl) hk H

theorem name_ev {k : Nat} (hk : k < 32) (H : AM.Heap) : Ev1 X 27 [.int .i64 (k : Nat)] H (.str (nm k), H) :=
  Ev1.each (T := fun _ _ _ => none) Below.none (n := 100) (f := 27) (N := 32) (a := fun k => .int .i64 (k : Nat)) (v := fun k => .str (nm k)) (by kernel_rfl) (fun _ => rfl) hk H

/-- the names of the bits below i -/
def nmsB (c : BitVec 32) : Nat → List (List UInt8)
  | 0 => []
  | i + 1 => if c.getLsbD i then nmsB c i ++ [nm i] else nmsB c i

theorem nm_inj : ∀ i j, i < 32 → j < 32 → nm i = nm j → i = j := by
  have : (List.range 32).all (fun i => (List.range 32).all fun j => !(nm i == nm j) || i == j) = true := by kernel_rfl
  intro i j hi hj h
  have h1 := List.all_eq_true.1 (List.all_eq_true.1 this i (List.mem_range.2 hi)) j (List.mem_range.2 hj)
  simpa [h] using h1

end Go.Proofs.YtfkbemllgeopfaaDoor
