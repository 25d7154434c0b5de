/- Walks: tables of reader and of its function. -/
import Derived.Test.YtikleidhmekgnaaWU
namespace Go.Proofs.Ytikleidhmekgnaa
open Go.AM
set_option linter.unusedSimpArgs false
set_option linter.unusedVariables false

theorem nH_shift {c : Nat} {b : List UInt8} {a m : Int} {n f l : List Int} {t tb tn : Nat} (d : Nat) : shiftH d (nH c b a m n f l 0 t tb tn) = nH c b a m n f l d t tb tn := by
  have h := nH_ren (c := c) (b := b) (a := a) (m := m) (n := n) (f := f) (l := l) (t := t) (tb := tb) (tn := tn) (shiftN d) (fun t => t) 0 d t tb tn (fun k _ => by simp [shiftN]; omega) rfl rfl rfl
  rw [← h]
  unfold shiftH
  refine List.map_congr_left fun x hx => ?_
  cases x with
  | none => rfl
  | some ob =>
    obtain ⟨k, hk, he⟩ := List.mem_iff_getElem.1 hx
    have : obAt (nH c b a m n f l 0 t tb tn) k = some ob := by
      unfold obAt
      rw [List.getElem?_eq_getElem hk, he]; rfl
    simp only [Option.map_some, nH_g0 _ _ _ ob this]

def T22 : Cf := fun f xs H => match f, xs with
  | 22, [.ro c (.pi .i64 l) 1, .ro c2 (.pb b) 2, .int .i64 a] => if l.length ≤ 320 ∧ fine l = true then some (.fn 26 (cap6 H.length), H ++ nH c2 b a (mxL 0 l) (countsR l).1 (firstsR (countsR l).1) l H.length 0 2 0) else none
  | _, _ => none

theorem T22_below : Below X T22 := by
  intro f xs H r h
  unfold T22 at h
  split at h
  · rename_i c l c2 b a
    split at h
    · rename_i hl
      rw [← Option.some.inj h]
      have := Ev1.frame (reader_ev c c2 l b a hl.1 hl.2) rfl H
      rw [nH_shift] at this
      have e : shiftV H.length (.fn 26 [.ptr 0 0 0 0, .ptr 1 0 0 0, .ptr 2 0 0 0, .ptr 3 0 0 0, .ptr 4 0 0 0, .ptr 5 0 0 0]) = .fn 26 (cap6 H.length) := by
        simp [shiftV, ren, renL, shiftN, cap6, Nat.add_comm]
      rw [e] at this
      exact this
    · cases h
  · cases h

open Classical in
/-- the table of all that is told -/
noncomputable def evT (C : Ctx) : Cf := fun f xs H => if h : ∃ r, Ev1 C f xs H r then some (Classical.choose h) else none

theorem Ev1.one {C : Ctx} {f : Nat} {xs : List AV} {H : AM.Heap} {r r2 : AV × AM.Heap} (h : Ev1 C f xs H r) (h2 : Ev1 C f xs H r2) : r = r2 := by
  obtain ⟨n, h⟩ := h
  obtain ⟨n2, h2⟩ := h2
  have e := h (max n n2) (by omega)
  rw [h2 (max n n2) (by omega)] at e
  exact (Option.some.inj e).symm

theorem evT_below (C : Ctx) : Below C (evT C) := by
  intro f xs H r h
  unfold evT at h
  split at h
  · rename_i hx
    rw [← Option.some.inj h]
    exact Classical.choose_spec hx
  · cases h

theorem evT_eq {C : Ctx} {f : Nat} {xs : List AV} {H : AM.Heap} {r : AV × AM.Heap} (h : Ev1 C f xs H r) : evT C f xs H = some r := by
  have hx : ∃ r, Ev1 C f xs H r := ⟨r, h⟩
  unfold evT
  rw [dif_pos hx]
  exact congrArg some (Ev1.one (Classical.choose_spec hx) h)

end Go.Proofs.Ytikleidhmekgnaa
