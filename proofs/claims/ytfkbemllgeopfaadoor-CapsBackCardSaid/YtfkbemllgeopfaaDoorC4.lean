/- Walks: the law CapsBoth. -/
import Derived.Test.YtfkbemllgeopfaaDoorC6
namespace Go.Proofs.YtfkbemllgeopfaaDoor
open Go.AM
set_option linter.unusedSimpArgs false
set_option linter.unusedVariables false

set_option maxRecDepth 100000 in
theorem law_code (a b l : BitVec 32) : ∃ code, Tryd.f3.body = some code ∧
    Run X (evT X) 3 0 code [(0, uB a), (1, uB b), (2, uB l)] [] ⟨.ret, [(6, .bool true)], []⟩ := by
  refine ⟨_, rfl, 0, ?_⟩
  have hL := evT_eq (lives_ev [])
  have hB := fun x y => evT_eq (both_ev x y [])
  have e1 := both_a a b
  have e2 := both_b a b
  have e3 := both_comm a b
  have e4 := both_self a b
  have e5 := both_less a b l
  unfold uB at hB
  simp (maxSteps := 2000000) -implicitDefEqProofs [-getElem?_pos, List.getElem?_cons_zero, List.getElem?_cons_succ, exec, runOps, dstOk, wantedV, AM.step, evalT, evalO, evalArgs, evalParts, getF, putF, afterRegion, assignV, boxOf, newBox, hasIdsP, keepF, ofVal, ofCell, plen, pesz, callV, builtinV, lenV, binV, unV, arith, shiftI, loadV, storeV, putV, indexAddrV, live, upd, pget, pset, psetA, pagg, retag, retagP, byteAV, freezeP, freezeV, joinTags, joinTag, tags, ids, scalar, cellsLen, eqV, convV, faV, fvV, shiftBy, shiftRo, uB, hL, hB, e1, e2, e3, e4, e5, -BitVec.toNat_and, zero_uB]

theorem law_ev (a b l : BitVec 32) : Ev1 X 3 [uB a, uB b, uB l] [] (.bool true, []) := by
  obtain ⟨code, hb, hr⟩ := law_code a b l
  exact Ev1.plain (args := [uB a, uB b, uB l]) (l := [.bool true]) (evT_below X) Tryd.func3 hb rfl rfl (by simp [gtag]) hr (.inr rfl) rfl rfl rfl

theorem word_of {n : Int} (h : (Lit.int .u32 n).wf = true) : ∃ a : BitVec 32, n = (a.toNat : Int) := by
  have : IntKind.u32.min ≤ n ∧ n ≤ IntKind.u32.max := by simpa [Lit.wf] using h
  have e1 : IntKind.u32.min = 0 := rfl
  have e2 : IntKind.u32.max = 4294967295 := rfl
  refine ⟨BitVec.ofNat 32 n.toNat, ?_⟩
  rw [BitVec.toNat_ofNat, Nat.mod_eq_of_lt (by omega)]
  omega

end Go.Proofs.YtfkbemllgeopfaaDoor
