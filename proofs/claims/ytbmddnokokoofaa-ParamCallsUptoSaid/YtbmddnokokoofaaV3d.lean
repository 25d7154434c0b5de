/- Walks: the check of a value, whole. -/
import Derived.Test.YtbmddnokokoofaaV3a
import Derived.Test.YtbmddnokokoofaaV3b
import Derived.Test.YtbmddnokokoofaaV3c
namespace Go.Proofs.Ytbmddnokokoofaa
open Go.AM
set_option linter.unusedSimpArgs false
set_option linter.unusedVariables false

theorem pieceT {O : Option Code} {P : Code → Prop} (h : ∃ code, O = some code ∧ P code) (code' : Code) (h' : O = some code') : P code' := by
  obtain ⟨c, h1, h2⟩ := h
  rw [h'] at h1
  exact (Option.some.inj h1) ▸ h2

section
variable (v : Va) (t : Ty)

set_option maxRecDepth 100000 in
set_option maxHeartbeats 4000000 in
theorem check_code (ht : t.t < 256) (hb : v.b < 18446744073709551616) (hi : -9223372036854775808 ≤ v.i ∧ v.i < 9223372036854775808) : ∃ code, Try.f19.body = some code ∧
    Tells (Rets fun fr H => getF fr 4 = .int .i64 (chkV v t)) X (evT X) 19 0 code [(0, .agg v.pay), (1, .agg t.pay)] [] := by
  refine ⟨_, rfl, ?_⟩
  have hK := kind_ev ht [some (vaO v), some (tyO t)]
  have hS := size_ev' ht [some (vaO v), some (tyO t)]
  have hF := fin_ev v.w ht [some (vaO v), some (tyO t)]
  have hbd := kind_bd t.t t.u
  have hsz := size_num (t := t.t) (u := t.u)
  have hn8 : sizeN t.t ≤ 8 := by unfold sizeN; repeat' split
                                 all_goals omega
  unfold chkV okVa
  apply Tells.seq (fr' := [(2, .ptr 0 0 0 0), (3, .ptr 1 0 0 0)]) (H' := [some (vaO v), some (tyO t)])
  · (refine ⟨0, ?_⟩; simp (maxSteps := 2000000) -implicitDefEqProofs [-getElem?_pos, List.getElem?_cons_zero, List.getElem?_cons_succ, go_sem, eqV, plen, loadV, storeV, vaO, tyO, Va.pay, Ty.pay])
  apply Tells.seq (fr' := [(2, .ptr 0 0 0 0), (3, .ptr 1 0 0 0), (5, .int .i64 (kindN t.t t.u))]) (H' := [some (vaO v), some (tyO t)])
  · clear hS hF
    simp only [vaO, tyO, Va.pay, Ty.pay] at hK
    generalize kindN t.t t.u = k at *
    (refine ⟨0, ?_⟩; simp (maxSteps := 2000000) -implicitDefEqProofs [-getElem?_pos, List.getElem?_cons_zero, List.getElem?_cons_succ, go_sem, eqV, plen, loadV, storeV, vaO, tyO, Va.pay, Ty.pay, mkTy, hK])
  clear hK
  generalize kindN t.t t.u = k at *
  by_cases hk0 : k < 0
  · rw [if_pos hk0]
    refine Tells.of (o := ⟨.ret, [(4, .int .i64 2)], [some (vaO v), some (tyO t)]⟩) ?_ ⟨rfl, rfl⟩
    apply Run.seq_out (hne := by simp)
    refine ⟨0, ?_⟩
    simp (maxSteps := 2000000) -implicitDefEqProofs [-getElem?_pos, List.getElem?_cons_zero, List.getElem?_cons_succ, go_sem, eqV, plen, loadV, storeV, hk0]
  rw [if_neg hk0]
  apply Tells.seq (fr' := [(2, .ptr 0 0 0 0), (3, .ptr 1 0 0 0), (5, .int .i64 k), (11, .bool false)]) (H' := [some (vaO v), some (tyO t)])
  · (refine ⟨0, ?_⟩; simp (maxSteps := 2000000) -implicitDefEqProofs [-getElem?_pos, List.getElem?_cons_zero, List.getElem?_cons_succ, go_sem, eqV, plen, loadV, storeV, hk0])
  have hE0 := fun H xo yo => eqVa v {} H xo yo
  by_cases hz : v = {}
  · rw [if_pos hz]
    rw [decide_eq_true hz] at hE0
    refine Tells.of (o := ⟨.ret, [(4, .int .i64 0)], [some (vaO v), some (tyO t)]⟩) ?_ ⟨rfl, rfl⟩
    apply Run.seq_out (hne := by simp)
    apply Run.seq (fr' := [(2, .ptr 0 0 0 0), (3, .ptr 1 0 0 0), (5, .int .i64 k), (14, .bool true)]) (H' := [some (vaO v), some (tyO t)])
    · have hb0 := bdV0
      have hE := hE0
      generalize hpz : (({} : Va).pay) = pz at *
      simp only [Va.pay] at hE
      (refine ⟨0, ?_⟩; simp (maxSteps := 2000000) -implicitDefEqProofs [-getElem?_pos, List.getElem?_cons_zero, List.getElem?_cons_succ, go_sem, eqV, plen, loadV, storeV, -eqV, vaO, tyO, Va.pay, mkVa, hb0, hE])
    refine ⟨0, ?_⟩
    simp (maxSteps := 2000000) -implicitDefEqProofs [-getElem?_pos, List.getElem?_cons_zero, List.getElem?_cons_succ, go_sem, eqV, plen, loadV, storeV]
  rw [if_neg hz]
  rw [decide_eq_false hz] at hE0
  apply Tells.seq (fr' := [(2, .ptr 0 0 0 0), (3, .ptr 1 0 0 0), (5, .int .i64 k), (14, .bool false)]) (H' := [some (vaO v), some (tyO t)])
  · have hb0 := bdV0
    have hE := hE0
    generalize hpz : (({} : Va).pay) = pz at *
    simp only [Va.pay] at hE
    (refine ⟨0, ?_⟩; simp (maxSteps := 2000000) -implicitDefEqProofs [-getElem?_pos, List.getElem?_cons_zero, List.getElem?_cons_succ, go_sem, eqV, plen, loadV, storeV, -eqV, vaO, tyO, Va.pay, mkVa, hb0, hE])
  clear hE0
  apply Tells.seq (fr' := [(2, .ptr 0 0 0 0), (3, .ptr 1 0 0 0), (5, .int .i64 k), (6, .bool (v.k == k))]) (H' := [some (vaO v), some (tyO t)])
  · (refine ⟨0, ?_⟩; simp (maxSteps := 2000000) -implicitDefEqProofs [-getElem?_pos, List.getElem?_cons_zero, List.getElem?_cons_succ, go_sem, eqV, plen, loadV, storeV, vaO, tyO, Va.pay])
  generalize hsn : sizeN t.t = n at *
  have w8 : IntKind.i64.wrap (8 * (n : Int)) = ((8 * n : Nat) : Int) := by rw [wrap_i64 (by omega) (by omega)]; omega
  apply Tells.seq (fr' := ckFr k (v.k == k) (8 * n)) (H' := [some (vaO v), some (tyO t)])
  · simp only [vaO, tyO, Va.pay, Ty.pay] at hS
    generalize 8 * n = n8 at *
    (refine ⟨0, ?_⟩; simp (maxSteps := 2000000) -implicitDefEqProofs [-getElem?_pos, List.getElem?_cons_zero, List.getElem?_cons_succ, go_sem, eqV, plen, loadV, storeV, vaO, tyO, Va.pay, Ty.pay, hS, w8, ckFr])
  clear hS
  have main : ∃ code, ckO = some code ∧ Tells (Goes (ckP v t k n)) X (evT X) 19 0 code (ckFr k (v.k == k) (8 * n)) [some (vaO v), some (tyO t)] := by
    by_cases k1 : v.k = 1
    · exact ck1 v t k n hbd hk0 hsz hF k1
    by_cases k234 : v.k = 2 ∨ v.k = 3 ∨ v.k = 4
    · exact ck234 v t k n hbd hk0 hsz hF k234
    exact ckR v t k n hbd hk0 hsz hF k1 k234
  apply Tells.andThen (P := ckP v t k n)
  · exact pieceT main _ rfl
  rintro fr H ⟨rfl, hfr⟩
  generalize okVk v k n t.t = ok at *
  cases ok with
  | true =>
    refine Tells.of (o := ⟨.ret, [(4, .int .i64 0)], [some (vaO v), some (tyO t)]⟩) ⟨0, ?_⟩ ⟨rfl, rfl⟩
    rcases hfr with rfl | rfl
    · simp (maxSteps := 2000000) -implicitDefEqProofs [-getElem?_pos, List.getElem?_cons_zero, List.getElem?_cons_succ, go_sem, eqV, plen, loadV, storeV, unV]
    · simp (maxSteps := 2000000) -implicitDefEqProofs [-getElem?_pos, List.getElem?_cons_zero, List.getElem?_cons_succ, go_sem, eqV, plen, loadV, storeV, unV]
  | false =>
    refine Tells.of (o := ⟨.ret, [(4, .int .i64 2)], [some (vaO v), some (tyO t)]⟩) ⟨0, ?_⟩ ⟨rfl, rfl⟩
    rcases hfr with rfl | rfl
    · simp (maxSteps := 2000000) -implicitDefEqProofs [-getElem?_pos, List.getElem?_cons_zero, List.getElem?_cons_succ, go_sem, eqV, plen, loadV, storeV, unV]
    · simp (maxSteps := 2000000) -implicitDefEqProofs [-getElem?_pos, List.getElem?_cons_zero, List.getElem?_cons_succ, go_sem, eqV, plen, loadV, storeV, unV]

end

theorem check_ev {v : Va} {t : Ty} (ht : t.t < 256) (hb : v.b < 18446744073709551616) (hi : -9223372036854775808 ≤ v.i ∧ v.i < 9223372036854775808) (H : AM.Heap) : evT X 19 [.agg v.pay, .agg t.pay] H = some (.int .i64 (chkV v t), H) := by
  obtain ⟨code, hcode, o, ⟨he, h4⟩, hr⟩ := check_code v t ht hb hi
  exact evT_eq (Ev1.toldP (l := [.int .i64 (chkV v t)]) (evT_below X) Try.func19 hcode (args_va (i := 0) (args_ty (i := 1) (args_nil 2))) (by simp [Va.pay, Ty.pay, idsL, ids]) (by simp [gtag]) rfl rfl rfl ⟨o, ⟨he, by show some [getF o.fr 4] = _; rw [h4]⟩, hr⟩)

end Go.Proofs.Ytbmddnokokoofaa
