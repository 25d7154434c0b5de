/- Kinds, by evaluation. -/
import Derived.Test.YtmdciglfpedhgaaDoorG2
namespace Go.Proofs.YtmdciglfpedhgaaDoor
open Go.AM
set_option linter.unusedSimpArgs false
set_option linter.unusedVariables false

/-- what a kind has -/
def shp (k : Nat) : Nat :=
  if k = 1 ∨ k = 9 ∨ k = 14 ∨ k = 31 then 0 else if k = 2 ∨ k = 3 ∨ k = 22 then 1 else if k = 12 then 2 else if k = 23 then 3 else if k = 24 then 4
  else if k = 25 ∨ k = 26 then 5 else if k = 27 then 6 else if k = 28 then 7 else 8

theorem shape_ev {k : Nat} (hk : k < 256) (H : AM.Heap) : evT X 22 [.int .u8 (k : Nat)] H = some (.int .i64 (shp k : Nat), H) :=
  evT_eq (Ev1.each (T := fun _ _ _ => none) Below.none (n := 60) (f := 22) (N := 256) (a := fun k => .int .u8 (k : Nat)) (v := fun k => .int .i64 (shp k : Nat)) (by kernel_rfl) (fun _ => rfl) hk H)

/-- is a kind about a statement? -/
def abt (k : Nat) : Bool := k == 23 || k == 24 || k == 25 || k == 26 || k == 28

theorem about_ev {k : Nat} (hk : k < 256) (H : AM.Heap) : evT X 17 [.int .u8 (k : Nat)] H = some (.bool (abt k), H) :=
  evT_eq (Ev1.each (T := fun _ _ _ => none) Below.none (n := 60) (f := 17) (N := 256) (a := fun k => .int .u8 (k : Nat)) (v := fun k => .bool (abt k)) (by kernel_rfl) (fun _ => rfl) hk H)

theorem shapeF_ev {k : Nat} (hk : k < 256) (H : AM.Heap) : evT X 24 [.int .u8 (k : Nat)] H = some (.int .i64 (shp k : Nat), H) :=
  evT_eq (Ev1.each (T := fun _ _ _ => none) Below.none (n := 60) (f := 24) (N := 256) (a := fun k => .int .u8 (k : Nat)) (v := fun k => .int .i64 (shp k : Nat)) (by kernel_rfl) (fun _ => rfl) hk H)

theorem rabout_ev {k : Nat} (hk : k < 256) (H : AM.Heap) : evT X 18 [.int .u8 (k : Nat)] H = some (.bool (abt k), H) :=
  evT_eq (Ev1.each (T := fun _ _ _ => none) Below.none (n := 80) (f := 18) (N := 256) (a := fun k => .int .u8 (k : Nat)) (v := fun k => .bool (abt k)) (by kernel_rfl) (fun _ => rfl) hk H)

end Go.Proofs.YtmdciglfpedhgaaDoor
