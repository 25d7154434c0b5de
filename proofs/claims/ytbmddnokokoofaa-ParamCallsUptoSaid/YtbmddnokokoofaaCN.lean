/- Types' names, by evaluation. -/
import Derived.Test.YtbmddnokokoofaaG2
namespace Go.Proofs.Ytbmddnokokoofaa
open Go.AM
set_option linter.unusedSimpArgs false
set_option linter.unusedVariables false

/-- a number below 1000, written -/
def dg (k : Nat) : List UInt8 := if k < 10 then [UInt8.ofNat (48 + k)] else if k < 100 then [UInt8.ofNat (48 + k / 10), UInt8.ofNat (48 + k % 10)] else [UInt8.ofNat (48 + k / 100), UInt8.ofNat (48 + k / 10 % 10), UInt8.ofNat (48 + k % 10)]
/-- the name of a type that is known -/
def nmC (k : Nat) : List UInt8 := match k with
  | 0 => [100, 101, 99, 105, 109, 97, 108]
  | 1 => [116, 105, 110, 121]
  | 2 => [115, 104, 111, 114, 116]
  | 3 => [108, 111, 110, 103]
  | 4 => [102, 108, 111, 97, 116]
  | 5 => [100, 111, 117, 98, 108, 101]
  | 6 => [110, 117, 108, 108]
  | 7 => [116, 105, 109, 101, 115, 116, 97, 109, 112]
  | 8 => [108, 111, 110, 103, 45, 108, 111, 110, 103]
  | 9 => [105, 110, 116, 50, 52]
  | 10 => [100, 97, 116, 101]
  | 11 => [116, 105, 109, 101]
  | 12 => [100, 97, 116, 101, 45, 116, 105, 109, 101]
  | 13 => [121, 101, 97, 114]
  | 15 => [118, 97, 114, 45, 99, 104, 97, 114]
  | 16 => [98, 105, 116]
  | 245 => [106, 115, 111, 110]
  | 246 => [110, 101, 119, 45, 100, 101, 99, 105, 109, 97, 108]
  | 247 => [101, 110, 117, 109]
  | 248 => [115, 101, 116]
  | 249 => [116, 105, 110, 121, 45, 98, 108, 111, 98]
  | 250 => [109, 101, 100, 105, 117, 109, 45, 98, 108, 111, 98]
  | 251 => [108, 111, 110, 103, 45, 98, 108, 111, 98]
  | 252 => [98, 108, 111, 98]
  | 253 => [118, 97, 114, 45, 115, 116, 114, 105, 110, 103]
  | 254 => [115, 116, 114, 105, 110, 103]
  | 255 => [103, 101, 111, 109, 101, 116, 114, 121]
  | _ => []
/-- is a type known? -/
def kn (k : Nat) : Bool := !(nmC k).isEmpty
/-- a type's name -/
def nmS (k : Nat) : List UInt8 := if kn k then nmC k else [116, 121, 112, 101, 45] ++ dg k
/-- all names -/
def nmL : List AV := (List.range 256).map fun k => .str (nmC k)

theorem idsL_strs : ∀ l : List Nat, idsL (l.map fun k => AV.str (nmC k)) = []
  | [] => rfl
  | a :: r => by simp [idsL, ids, idsL_strs r]

theorem nmL_at {k : Nat} (h : k < 256) : nmL[k]? = some (.str (nmC k)) := by simp [nmL, h]

theorem names_ev (H : AM.Heap) : evT X 42 [] H = some (.agg (.pc nmL), H) := by
  have h := Ev1.tried (T := fun _ _ _ => none) (C := X) Below.none (n := 50) (f := 42) (args := []) (v := .agg (.pc nmL)) (N := []) (by kernel_rfl) H
  have e : shiftV H.length (.agg (.pc nmL)) = .agg (.pc nmL) := ren_flat _ (by show idsL nmL = []; exact idsL_strs _) (fun _ _ => rfl)
  rw [e] at h
  exact evT_eq (by simpa [shiftH] using h)

section
variable (k : Nat)

set_option maxRecDepth 100000 in
theorem known_code (hk : k < 256) : ∃ code, Try.f24.body = some code ∧
    Run X (evT X) 24 0 code [(0, .int .u8 (k : Nat))] [] ⟨.ret, [(2, .bool (kn k))], []⟩ := by
  refine ⟨_, rfl, 0, ?_⟩
  have hN := names_ev []
  have hA := nmL_at hk
  have hk2 : (k : Int) < 256 := by omega
  have hb : ∀ l : List UInt8, (!(l == [])) = !l.isEmpty := fun l => by cases l <;> rfl
  unfold kn
  generalize nmL = L at *
  generalize nmC k = s at *
  simp (maxSteps := 2000000) -implicitDefEqProofs [-getElem?_pos, List.getElem?_cons_zero, List.getElem?_cons_succ, go_sem, eqV, plen, loadV, storeV, hN, hA, indexV, hk2, strOp, hb]

end

theorem known_ev {k : Nat} (hk : k < 256) (H : AM.Heap) : evT X 24 [.int .u8 (k : Nat)] H = some (.bool (kn k), H) := by
  obtain ⟨code, hcode, hr⟩ := known_code k hk
  exact evT_eq (Ev1.toldP (l := [.bool (kn k)]) (evT_below X) Try.func24 hcode (args_flat (i := 0) rfl rfl (args_nil 1)) rfl (by simp [gtag]) rfl rfl rfl ⟨_, ⟨rfl, rfl⟩, hr⟩)

theorem rknown_ev {k : Nat} (hk : k < 256) (H : AM.Heap) : evT X 58 [.int .u8 (k : Nat)] H = some (.bool (kn k), H) :=
  evT_eq (Ev1.each (T := fun _ _ _ => none) Below.none (n := 50) (f := 58) (N := 256) (a := fun k => .int .u8 (k : Nat)) (v := fun k => .bool (kn k)) (by kernel_rfl) (fun _ => rfl) hk H)

section
variable (k : Nat)

end

end Go.Proofs.Ytbmddnokokoofaa
