/- Walks: the column reader of fixed numbers; SameBytes. -/
import Derived.Test.YtbmddnokokoofaaG2
namespace Go.Proofs.Ytbmddnokokoofaa
open Go.AM
set_option linter.unusedSimpArgs false
set_option linter.unusedVariables false

def cL : Code → Option Code
  | .seq a _ => some a
  | _ => none
def cR : Code → Option Code
  | .seq _ b => some b
  | _ => none

theorem app_at {H : AM.Heap} {o : Nat} {x : Option AM.Obj} (h : H[o]? = some x) (N : AM.Heap) : (H ++ N)[o]? = some x := by
  have : o < H.length := (List.getElem?_eq_some_iff.1 h).1
  rw [List.getElem?_append_left this]; exact h

/-- what is left, and the error -/
abbrev St := List UInt8 × Int

/-- a fixed number off what is left -/
def fx (n : Nat) (s : St) : Nat × St :=
  if s.2 ≠ 0 then (0, s) else if s.1.length < n then (0, s.1, 4) else (leV (s.1.take n), s.1.drop n, 0)

theorem rf_ev {H : AM.Heap} {a : AV} {b : List UInt8} {n : Nat} (h : Byt H a b) (hb : b.length ≤ 90000000) :
    evT X 45 [a, .int .i64 (n : Nat)] H = some (.tup [.int .u64 (rfR b n).1, .int .i64 (rfR b n).2], H) := by
  obtain ⟨c, p, xl, hp, hc, hx'⟩ := args_byt (C := X) (f := 45) (i := 0) rfl h (args_flat (i := 1) (a := .int .i64 (n : Nat)) rfl rfl (args_nil 2))
  obtain ⟨code, hcode, hr⟩ := readFixed_code (evT X) c b n (by omega)
  refine evT_eq (Ev1.toldP (l := [.int .u64 (rfR b n).1, .int .i64 (rfR b n).2]) (evT_below X) Try.func45 hcode hx' (by simp [idsL, ids, hp.ids]) (by simp [gtag]) rfl rfl rfl ?_)
  rw [par45, coB hp]
  exact ⟨_, ⟨rfl, rfl⟩, hr⟩

/-- the reader's box -/
def rdO (c t tg : Nat) (s : St) : AM.Obj := ⟨.pc [.ro c (.pb s.1) t, .int .i64 s.2], 0, some 2, 1, false, true, tg⟩

section
variable (c t tg : Nat) (s : St) (n : Nat)

/-- the reader's box when all is taken -/
def rdN (tg : Nat) (e : Int) : AM.Obj := ⟨.pc [.ro 0 .pn 0, .int .i64 e], 0, some 2, 1, false, true, tg⟩

end

theorem fx_lt {n : Nat} (s : St) : (fx n s).1 < 256 ^ n := by
  unfold fx
  split
  · exact Nat.pow_pos (by omega)
  · split
    · exact Nat.pow_pos (by omega)
    · have := leV_lt (s.1.take n)
      rw [List.length_take, Nat.min_eq_left (by omega)] at this
      exact this

theorem fx_len (n : Nat) (s : St) : (fx n s).2.1.length ≤ s.1.length := by
  unfold fx
  split
  · exact Nat.le_refl _
  · split
    · exact Nat.le_refl _
    · simp

theorem fx_nil {n : Nat} {s : St} {c : Nat} (h : c = 0 → s.1 = []) : c = 0 → (fx n s).2.1 = [] := by
  intro hc
  have := h hc
  unfold fx
  split
  · exact this
  · split
    · exact this
    · simp [this]

set_option maxRecDepth 100000 in
theorem sameB_code (c c2 : Nat) (a b : List UInt8) : ∃ code, Try.f11.body = some code ∧
    Run X (evT X) 11 0 code [(0, .ro c (.pb a) 1), (1, .ro c2 (.pb b) 2)] [] ⟨.ret, [(4, .bool (a == b))], []⟩ := by
  refine ⟨_, rfl, 0, ?_⟩
  simp (maxSteps := 2000000) -implicitDefEqProofs [-getElem?_pos, List.getElem?_cons_zero, List.getElem?_cons_succ, go_sem, eqV, plen, loadV, storeV, readSl, strOp]

theorem sameB_ev {H : AM.Heap} {a a2 : AV} {l m : List UInt8} (h : Byt H a l) (h2 : Byt H a2 m) : evT X 11 [a, a2] H = some (.bool (l == m), H) := by
  obtain ⟨c2, p2, x2, hp2, _, hx2⟩ := args_byt (C := X) (f := 11) (i := 1) rfl h2 (args_nil 2)
  obtain ⟨c, p, x, hp, _, hx⟩ := args_byt (C := X) (f := 11) (i := 0) rfl h hx2
  obtain ⟨code, hcode, hr⟩ := sameB_code c c2 l m
  refine evT_eq (Ev1.toldP (l := [.bool (l == m)]) (evT_below X) Try.func11 hcode hx (by simp [idsL, ids, hp.ids, hp2.ids]) (by simp [gtag]) rfl rfl rfl ?_)
  rw [par11, coB hp, coB hp2]
  exact ⟨_, ⟨rfl, rfl⟩, hr⟩

end Go.Proofs.Ytbmddnokokoofaa
