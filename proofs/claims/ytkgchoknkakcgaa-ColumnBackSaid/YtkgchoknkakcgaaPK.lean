/- Walks: Pick. -/
import Derived.Test.YtkgchoknkakcgaaG2
namespace Go.Proofs.Ytkgchoknkakcgaa
open Go.AM
set_option linter.unusedSimpArgs false
set_option linter.unusedVariables false

/-- a number from 0 to below n -/
def pk (x : Int) (n : Nat) : Nat := (if x.tmod n < 0 then x.tmod n + n else x.tmod n).toNat

theorem tmod_bd {x : Int} {n : Nat} (h : 0 < n) : -(n : Int) < x.tmod n ∧ x.tmod n < n := by
  have hb : x.tmod n < n := Int.tmod_lt_of_pos x (by omega)
  refine ⟨?_, hb⟩
  by_cases hx : 0 ≤ x
  · have := Int.tmod_nonneg (n : Int) hx; omega
  · have h2 := Int.neg_tmod (-x) (n : Int)
    rw [Int.neg_neg] at h2
    have h3 := Int.tmod_lt_of_pos (-x) (b := (n : Int)) (by omega)
    omega

theorem pk_lt {x : Int} {n : Nat} (h : 0 < n) : pk x n < n := by
  unfold pk
  have := tmod_bd (x := x) h
  split <;> omega

section
variable (x : Int) (n : Nat)

set_option maxRecDepth 100000 in
theorem pick_code (h : 0 < n) (hn : n < 9223372036854775808) : ∃ code, Try.f16.body = some code ∧
    Run X (evT X) 16 0 code [(0, .int .i64 x), (1, .int .i64 (n : Nat))] [] ⟨.ret, [(4, .int .i64 (pk x n : Nat))], []⟩ := by
  refine ⟨_, rfl, 0, ?_⟩
  have hn0 : ¬ (n : Int) = 0 := by omega
  have hn1 : ¬ n = 0 := by omega
  have hbd := tmod_bd (x := x) h
  unfold pk at *
  generalize hq : x.tmod n = m at *
  by_cases hm : m < 0
  · rw [if_pos hm]
    have w : IntKind.i64.wrap (m + n) = (((m + n).toNat : Nat) : Int) := by rw [wrap_i64 (by omega) (by omega)]; omega
    generalize (m + n).toNat = z at *
    simp (maxSteps := 2000000) -implicitDefEqProofs [-getElem?_pos, List.getElem?_cons_zero, List.getElem?_cons_succ, exec, runOps, dstOk, wantedV, AM.step, evalT, evalO, evalArgs, evalParts, getF, putF, afterRegion, assignV, boxOf, newBox, hasIdsP, keepF, ofVal, ofCell, plen, pesz, callV, builtinV, lenV, binV, unV, arith, shiftI, loadV, storeV, putV, indexAddrV, live, upd, pget, pset, psetA, pagg, retag, retagP, byteAV, freezeP, freezeV, joinTags, joinTag, tags, ids, scalar, cellsLen, eqV, convV, faV, fvV, shiftBy, shiftRo, hn0, hn1, hq, hm, w]
  · rw [if_neg hm]
    have w : ((m.toNat : Nat) : Int) = m := by omega
    rw [w]
    simp (maxSteps := 2000000) -implicitDefEqProofs [-getElem?_pos, List.getElem?_cons_zero, List.getElem?_cons_succ, exec, runOps, dstOk, wantedV, AM.step, evalT, evalO, evalArgs, evalParts, getF, putF, afterRegion, assignV, boxOf, newBox, hasIdsP, keepF, ofVal, ofCell, plen, pesz, callV, builtinV, lenV, binV, unV, arith, shiftI, loadV, storeV, putV, indexAddrV, live, upd, pget, pset, psetA, pagg, retag, retagP, byteAV, freezeP, freezeV, joinTags, joinTag, tags, ids, scalar, cellsLen, eqV, convV, faV, fvV, shiftBy, shiftRo, hn0, hn1, hq, hm]

end

theorem pick_ev {H : AM.Heap} {x : Int} {n : Nat} (h : 0 < n) (hn : n < 9223372036854775808) : evT X 16 [.int .i64 x, .int .i64 (n : Nat)] H = some (.int .i64 (pk x n : Nat), H) := by
  obtain ⟨code, hcode, hr⟩ := pick_code x n h hn
  exact evT_eq (Ev1.toldP (l := [.int .i64 (pk x n : Nat)]) (evT_below X) Try.func16 hcode (args_flat (i := 0) rfl rfl (args_flat (i := 1) rfl rfl (args_nil 2))) rfl (by simp [gtag]) rfl rfl rfl ⟨_, ⟨rfl, rfl⟩, hr⟩)

end Go.Proofs.Ytkgchoknkakcgaa
