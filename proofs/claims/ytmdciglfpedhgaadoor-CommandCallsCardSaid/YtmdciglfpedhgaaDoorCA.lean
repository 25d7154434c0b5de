/- Kinds' names and answers, by evaluation. -/
import Derived.Test.YtmdciglfpedhgaaDoorK0
namespace Go.Proofs.YtmdciglfpedhgaaDoor
open Go.AM
set_option linter.unusedSimpArgs false
set_option linter.unusedVariables false

/-- a number below 1000, written -/
def dg (k : Nat) : List UInt8 := if k < 10 then [UInt8.ofNat (48 + k)] else if k < 100 then [UInt8.ofNat (48 + k / 10), UInt8.ofNat (48 + k % 10)] else [UInt8.ofNat (48 + k / 100), UInt8.ofNat (48 + k / 10 % 10), UInt8.ofNat (48 + k % 10)]
def nmT : List (Option (List UInt8)) := [some [115, 108, 101, 101, 112], some [113, 117, 105, 116], some [105, 110, 105, 116, 45, 100, 98], some [113, 117, 101, 114, 121], some [102, 105, 101, 108, 100, 45, 108, 105, 115, 116], some [99, 114, 101, 97, 116, 101, 45, 100, 98], some [100, 114, 111, 112, 45, 100, 98], some [114, 101, 102, 114, 101, 115, 104], none, some [115, 116, 97, 116, 105, 115, 116, 105, 99, 115], none, none, some [112, 114, 111, 99, 101, 115, 115, 45, 107, 105, 108, 108], none, some [112, 105, 110, 103], none, none, some [99, 104, 97, 110, 103, 101, 45, 117, 115, 101, 114], none, none, none, none, some [112, 114, 101, 112, 97, 114, 101], some [101, 120, 101, 99, 117, 116, 101], some [108, 111, 110, 103, 45, 100, 97, 116, 97], some [99, 108, 111, 115, 101], some [115, 116, 109, 116, 45, 114, 101, 115, 101, 116], some [115, 101, 116, 45, 111, 112, 116, 105, 111, 110], some [102, 101, 116, 99, 104], none, none, some [114, 101, 115, 101, 116]]
/-- a kind's name -/
def nmS (k : Nat) : List UInt8 := match nmT[k]? with
  | some (some s) => s
  | _ => [99, 111, 109, 109, 97, 110, 100, 45] ++ dg k
/-- what answers a kind -/
def ans (k : Nat) : Nat := if k = 1 ∨ k = 24 ∨ k = 25 then 1 else if k = 2 ∨ k = 14 ∨ k = 26 ∨ k = 31 ∨ k = 12 then 2 else if k = 27 then 3 else if k = 9 then 4 else if k = 3 ∨ k = 23 then 5 else if k = 22 then 6 else if k = 28 then 7 else if k = 17 then 8 else 9

theorem cn0 {j : Nat} (hj : j < 16) (H : AM.Heap) : evT X 13 [.int .u8 ((0 + j : Nat) : Int)] H = some (.str (nmS (0 + j)), H) :=
  evT_eq (Ev1.each (T := fun _ _ _ => none) Below.none (n := 200) (f := 13) (N := 16) (a := fun j => .int .u8 ((0 + j : Nat) : Int)) (v := fun j => .str (nmS (0 + j))) (by kernel_rfl) (fun _ => rfl) hj H)

theorem cn1 {j : Nat} (hj : j < 16) (H : AM.Heap) : evT X 13 [.int .u8 ((16 + j : Nat) : Int)] H = some (.str (nmS (16 + j)), H) :=
  evT_eq (Ev1.each (T := fun _ _ _ => none) Below.none (n := 200) (f := 13) (N := 16) (a := fun j => .int .u8 ((16 + j : Nat) : Int)) (v := fun j => .str (nmS (16 + j))) (by kernel_rfl) (fun _ => rfl) hj H)

theorem cn2 {j : Nat} (hj : j < 16) (H : AM.Heap) : evT X 13 [.int .u8 ((32 + j : Nat) : Int)] H = some (.str (nmS (32 + j)), H) :=
  evT_eq (Ev1.each (T := fun _ _ _ => none) Below.none (n := 200) (f := 13) (N := 16) (a := fun j => .int .u8 ((32 + j : Nat) : Int)) (v := fun j => .str (nmS (32 + j))) (by kernel_rfl) (fun _ => rfl) hj H)

theorem cn3 {j : Nat} (hj : j < 16) (H : AM.Heap) : evT X 13 [.int .u8 ((48 + j : Nat) : Int)] H = some (.str (nmS (48 + j)), H) :=
  evT_eq (Ev1.each (T := fun _ _ _ => none) Below.none (n := 200) (f := 13) (N := 16) (a := fun j => .int .u8 ((48 + j : Nat) : Int)) (v := fun j => .str (nmS (48 + j))) (by kernel_rfl) (fun _ => rfl) hj H)

theorem cn4 {j : Nat} (hj : j < 16) (H : AM.Heap) : evT X 13 [.int .u8 ((64 + j : Nat) : Int)] H = some (.str (nmS (64 + j)), H) :=
  evT_eq (Ev1.each (T := fun _ _ _ => none) Below.none (n := 200) (f := 13) (N := 16) (a := fun j => .int .u8 ((64 + j : Nat) : Int)) (v := fun j => .str (nmS (64 + j))) (by kernel_rfl) (fun _ => rfl) hj H)

theorem cn5 {j : Nat} (hj : j < 16) (H : AM.Heap) : evT X 13 [.int .u8 ((80 + j : Nat) : Int)] H = some (.str (nmS (80 + j)), H) :=
  evT_eq (Ev1.each (T := fun _ _ _ => none) Below.none (n := 200) (f := 13) (N := 16) (a := fun j => .int .u8 ((80 + j : Nat) : Int)) (v := fun j => .str (nmS (80 + j))) (by kernel_rfl) (fun _ => rfl) hj H)

theorem cn6 {j : Nat} (hj : j < 16) (H : AM.Heap) : evT X 13 [.int .u8 ((96 + j : Nat) : Int)] H = some (.str (nmS (96 + j)), H) :=
  evT_eq (Ev1.each (T := fun _ _ _ => none) Below.none (n := 200) (f := 13) (N := 16) (a := fun j => .int .u8 ((96 + j : Nat) : Int)) (v := fun j => .str (nmS (96 + j))) (by kernel_rfl) (fun _ => rfl) hj H)

theorem cn7 {j : Nat} (hj : j < 16) (H : AM.Heap) : evT X 13 [.int .u8 ((112 + j : Nat) : Int)] H = some (.str (nmS (112 + j)), H) :=
  evT_eq (Ev1.each (T := fun _ _ _ => none) Below.none (n := 200) (f := 13) (N := 16) (a := fun j => .int .u8 ((112 + j : Nat) : Int)) (v := fun j => .str (nmS (112 + j))) (by kernel_rfl) (fun _ => rfl) hj H)

theorem cn8 {j : Nat} (hj : j < 16) (H : AM.Heap) : evT X 13 [.int .u8 ((128 + j : Nat) : Int)] H = some (.str (nmS (128 + j)), H) :=
  evT_eq (Ev1.each (T := fun _ _ _ => none) Below.none (n := 200) (f := 13) (N := 16) (a := fun j => .int .u8 ((128 + j : Nat) : Int)) (v := fun j => .str (nmS (128 + j))) (by kernel_rfl) (fun _ => rfl) hj H)

theorem cn9 {j : Nat} (hj : j < 16) (H : AM.Heap) : evT X 13 [.int .u8 ((144 + j : Nat) : Int)] H = some (.str (nmS (144 + j)), H) :=
  evT_eq (Ev1.each (T := fun _ _ _ => none) Below.none (n := 200) (f := 13) (N := 16) (a := fun j => .int .u8 ((144 + j : Nat) : Int)) (v := fun j => .str (nmS (144 + j))) (by kernel_rfl) (fun _ => rfl) hj H)

theorem cn10 {j : Nat} (hj : j < 16) (H : AM.Heap) : evT X 13 [.int .u8 ((160 + j : Nat) : Int)] H = some (.str (nmS (160 + j)), H) :=
  evT_eq (Ev1.each (T := fun _ _ _ => none) Below.none (n := 200) (f := 13) (N := 16) (a := fun j => .int .u8 ((160 + j : Nat) : Int)) (v := fun j => .str (nmS (160 + j))) (by kernel_rfl) (fun _ => rfl) hj H)

theorem cn11 {j : Nat} (hj : j < 16) (H : AM.Heap) : evT X 13 [.int .u8 ((176 + j : Nat) : Int)] H = some (.str (nmS (176 + j)), H) :=
  evT_eq (Ev1.each (T := fun _ _ _ => none) Below.none (n := 200) (f := 13) (N := 16) (a := fun j => .int .u8 ((176 + j : Nat) : Int)) (v := fun j => .str (nmS (176 + j))) (by kernel_rfl) (fun _ => rfl) hj H)

theorem cn12 {j : Nat} (hj : j < 16) (H : AM.Heap) : evT X 13 [.int .u8 ((192 + j : Nat) : Int)] H = some (.str (nmS (192 + j)), H) :=
  evT_eq (Ev1.each (T := fun _ _ _ => none) Below.none (n := 200) (f := 13) (N := 16) (a := fun j => .int .u8 ((192 + j : Nat) : Int)) (v := fun j => .str (nmS (192 + j))) (by kernel_rfl) (fun _ => rfl) hj H)

theorem cn13 {j : Nat} (hj : j < 16) (H : AM.Heap) : evT X 13 [.int .u8 ((208 + j : Nat) : Int)] H = some (.str (nmS (208 + j)), H) :=
  evT_eq (Ev1.each (T := fun _ _ _ => none) Below.none (n := 200) (f := 13) (N := 16) (a := fun j => .int .u8 ((208 + j : Nat) : Int)) (v := fun j => .str (nmS (208 + j))) (by kernel_rfl) (fun _ => rfl) hj H)

theorem cn14 {j : Nat} (hj : j < 16) (H : AM.Heap) : evT X 13 [.int .u8 ((224 + j : Nat) : Int)] H = some (.str (nmS (224 + j)), H) :=
  evT_eq (Ev1.each (T := fun _ _ _ => none) Below.none (n := 200) (f := 13) (N := 16) (a := fun j => .int .u8 ((224 + j : Nat) : Int)) (v := fun j => .str (nmS (224 + j))) (by kernel_rfl) (fun _ => rfl) hj H)

theorem cn15 {j : Nat} (hj : j < 16) (H : AM.Heap) : evT X 13 [.int .u8 ((240 + j : Nat) : Int)] H = some (.str (nmS (240 + j)), H) :=
  evT_eq (Ev1.each (T := fun _ _ _ => none) Below.none (n := 200) (f := 13) (N := 16) (a := fun j => .int .u8 ((240 + j : Nat) : Int)) (v := fun j => .str (nmS (240 + j))) (by kernel_rfl) (fun _ => rfl) hj H)

theorem cname_ev {k : Nat} (hk : k < 256) (H : AM.Heap) : evT X 13 [.int .u8 (k : Nat)] H = some (.str (nmS k), H) := by
  have hj : k % 16 < 16 := Nat.mod_lt _ (by omega)
  have hq : k / 16 < 16 := by omega
  have he : 16 * (k / 16) + k % 16 = k := Nat.div_add_mod k 16
  generalize k / 16 = q at *
  generalize k % 16 = j at *
  subst he
  match q, hq with
  | 0, _ => exact cn0 hj H
  | 1, _ => exact cn1 hj H
  | 2, _ => exact cn2 hj H
  | 3, _ => exact cn3 hj H
  | 4, _ => exact cn4 hj H
  | 5, _ => exact cn5 hj H
  | 6, _ => exact cn6 hj H
  | 7, _ => exact cn7 hj H
  | 8, _ => exact cn8 hj H
  | 9, _ => exact cn9 hj H
  | 10, _ => exact cn10 hj H
  | 11, _ => exact cn11 hj H
  | 12, _ => exact cn12 hj H
  | 13, _ => exact cn13 hj H
  | 14, _ => exact cn14 hj H
  | 15, _ => exact cn15 hj H
  | q + 16, h => exact absurd h (by omega)

theorem rname_ev {k : Nat} (hk : k < 256) (H : AM.Heap) : evT X 14 [.int .u8 (k : Nat)] H = some (.str (nmS k), H) :=
  evT_eq (Ev1.each (T := fun _ _ _ => none) Below.none (n := 200) (f := 14) (N := 256) (a := fun k => .int .u8 (k : Nat)) (v := fun k => .str (nmS k)) (by kernel_rfl) (fun _ => rfl) hk H)

theorem answer_ev {k : Nat} (hk : k < 256) (H : AM.Heap) : evT X 15 [.int .u8 (k : Nat)] H = some (.int .i64 (ans k : Nat), H) :=
  evT_eq (Ev1.each (T := fun _ _ _ => none) Below.none (n := 100) (f := 15) (N := 256) (a := fun k => .int .u8 (k : Nat)) (v := fun k => .int .i64 (ans k : Nat)) (by kernel_rfl) (fun _ => rfl) hk H)

theorem ranswer_ev {k : Nat} (hk : k < 256) (H : AM.Heap) : evT X 16 [.int .u8 (k : Nat)] H = some (.int .i64 (ans k : Nat), H) :=
  evT_eq (Ev1.each (T := fun _ _ _ => none) Below.none (n := 100) (f := 16) (N := 256) (a := fun k => .int .u8 (k : Nat)) (v := fun k => .int .i64 (ans k : Nat)) (by kernel_rfl) (fun _ => rfl) hk H)

end Go.Proofs.YtmdciglfpedhgaaDoor
