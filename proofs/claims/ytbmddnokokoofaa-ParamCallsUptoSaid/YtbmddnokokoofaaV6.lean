/- Walks: the document's check of a value, whole; plain: both checks agree. -/
import Derived.Test.YtbmddnokokoofaaV5
namespace Go.Proofs.Ytbmddnokokoofaa
open Go.AM
set_option linter.unusedSimpArgs false
set_option linter.unusedVariables false

section
variable (v : Va) (t : Ty)

set_option maxRecDepth 100000 in
set_option maxHeartbeats 4000000 in
theorem rcheck_code (ht : t.t < 256) : ∃ code, Try.f27.body = some code ∧
    Tells (Rets fun fr H => getF fr 4 = .int .i64 (rchkV v t)) X (evT X) 27 0 code [(0, .agg v.pay), (1, .agg t.pay)] [] := by
  refine ⟨_, rfl, ?_⟩
  have hK := rkind_ev ht [some (vaO v), some (tyO t)]
  have hS := rsize_ev' ht [some (vaO v), some (tyO t)]
  have hF := rfin_ev v.w ht [some (vaO v), some (tyO t)]
  have hbd := kind_bd t.t t.u
  have hn := rsz t.t
  unfold rchkV
  apply Tells.seq (fr' := [(2, .ptr 0 0 0 0), (3, .ptr 1 0 0 0)]) (H' := [some (vaO v), some (tyO t)])
  · (refine ⟨0, ?_⟩; simp (maxSteps := 2000000) -implicitDefEqProofs [-getElem?_pos, List.getElem?_cons_zero, List.getElem?_cons_succ, go_sem, eqV, plen, loadV, storeV, vaO, tyO, Va.pay, Ty.pay])
  apply Tells.seq (fr' := [(2, .ptr 0 0 0 0), (3, .ptr 1 0 0 0), (5, .int .i64 (kindN t.t t.u))]) (H' := [some (vaO v), some (tyO t)])
  · clear hS hF
    simp only [vaO, tyO, Va.pay, Ty.pay] at hK
    generalize kindN t.t t.u = k at *
    (refine ⟨0, ?_⟩; simp (maxSteps := 2000000) -implicitDefEqProofs [-getElem?_pos, List.getElem?_cons_zero, List.getElem?_cons_succ, go_sem, eqV, plen, loadV, storeV, vaO, tyO, Va.pay, Ty.pay, mkTy, hK])
  clear hK
  generalize kindN t.t t.u = k at *
  apply Tells.seq (fr' := [(2, .ptr 0 0 0 0), (3, .ptr 1 0 0 0), (6, .bool (bad0 v k))]) (H' := [some (vaO v), some (tyO t)])
  · unfold bad0
    by_cases h1 : k < 0
    · (refine ⟨0, ?_⟩; simp (maxSteps := 2000000) -implicitDefEqProofs [-getElem?_pos, List.getElem?_cons_zero, List.getElem?_cons_succ, go_sem, eqV, plen, loadV, storeV, vaO, tyO, Va.pay, h1])
    by_cases h2 : v.k = 0
    · (refine ⟨0, ?_⟩; simp (maxSteps := 2000000) -implicitDefEqProofs [-getElem?_pos, List.getElem?_cons_zero, List.getElem?_cons_succ, go_sem, eqV, plen, loadV, storeV, vaO, tyO, Va.pay, h1, h2])
    have h2b : (v.k != 0) = true := by simpa using h2
    generalize hq : (v.k != k) = q at *
    (refine ⟨0, ?_⟩; simp (maxSteps := 2000000) -implicitDefEqProofs [-getElem?_pos, List.getElem?_cons_zero, List.getElem?_cons_succ, go_sem, eqV, plen, loadV, storeV, vaO, tyO, Va.pay, h1, h2b, hq])
  have hq : bad0 v k = false → v.k = 0 ∨ v.k = 1 ∨ v.k = 2 ∨ v.k = 3 ∨ v.k = 4 ∨ v.k = 5 ∨ v.k = 6 ∨ v.k = 7 := by
    unfold bad0
    intro h
    simp only [Bool.or_eq_false_iff, Bool.and_eq_false_iff, bne_eq_false_iff_eq, decide_eq_false_iff_not] at h
    omega
  generalize bad0 v k = bd at *
  generalize rsizeN t.t = n at *
  have w8 : IntKind.i64.wrap (8 * (n : Int)) = ((8 * n : Nat) : Int) := by rw [wrap_i64 (by omega) (by omega)]; omega
  have w9 : IntKind.u64.wrap ((8 * n : Nat) : Int) = ((8 * n : Nat) : Int) := wrap_u64 (by omega) (by omega)
  apply Tells.seq (fr' := rcFr bd (8 * n)) (H' := [some (vaO v), some (tyO t)])
  · simp only [vaO, tyO, Va.pay, Ty.pay] at hS
    generalize 8 * n = n8 at *
    (refine ⟨0, ?_⟩; simp (maxSteps := 2000000) -implicitDefEqProofs [-getElem?_pos, List.getElem?_cons_zero, List.getElem?_cons_succ, go_sem, eqV, plen, loadV, storeV, vaO, tyO, Va.pay, Ty.pay, hS, w8, w9, rcFr])
  clear hS
  apply Tells.assoc
  apply Tells.seq (fr' := rcFr bd (8 * n) ++ [(81, .bool (c81 v))]) (H' := [some (vaO v), some (tyO t)])
  · exact pieceT (c81_code v t bd (8 * n)) _ rfl
  generalize c81 v = cc at *
  apply Tells.andThen (P := fun fr H => H = [some (vaO v), some (tyO t)] ∧ ∃ tl, fr = rcFr (bd || cc) (8 * n) ++ tl)
  · generalize 8 * n = n8 at *
    cases cc with
    | true =>
      refine Tells.of (o := ⟨.normal, rcFr true n8, [some (vaO v), some (tyO t)]⟩) ⟨0, ?_⟩ ⟨rfl, rfl, [], by simp [rcFr]⟩
      simp (maxSteps := 2000000) -implicitDefEqProofs [-getElem?_pos, List.getElem?_cons_zero, List.getElem?_cons_succ, go_sem, eqV, plen, loadV, storeV, rcFr]
    | false =>
      refine Tells.of (o := ⟨.normal, rcFr bd n8 ++ [(81, .bool false)], [some (vaO v), some (tyO t)]⟩) ⟨0, ?_⟩ ⟨rfl, rfl, [(81, .bool false)], by simp⟩
      simp (maxSteps := 2000000) -implicitDefEqProofs [-getElem?_pos, List.getElem?_cons_zero, List.getElem?_cons_succ, go_sem, eqV, plen, loadV, storeV, rcFr]
  rintro fr H ⟨rfl, tl, rfl⟩
  generalize hbc : (bd || cc) = b1 at *
  cases b1 with
  | true =>
    generalize 8 * n = n8 at *
    refine Tells.of (o := ⟨.ret, [(4, .int .i64 2)], [some (vaO v), some (tyO t)]⟩) ?_ ⟨rfl, rfl⟩
    apply Run.seq_out (hne := by simp)
    refine ⟨0, ?_⟩
    simp (maxSteps := 2000000) -implicitDefEqProofs [-getElem?_pos, List.getElem?_cons_zero, List.getElem?_cons_succ, go_sem, eqV, plen, loadV, storeV, rcFr]
  | false =>
  apply Tells.seq (fr' := r8Fr (8 * n)) (H' := [some (vaO v), some (tyO t)])
  · generalize 8 * n = n8 at *
    (refine ⟨0, ?_⟩; simp (maxSteps := 2000000) -implicitDefEqProofs [-getElem?_pos, List.getElem?_cons_zero, List.getElem?_cons_succ, go_sem, eqV, plen, loadV, storeV, rcFr, r8Fr])
  have hbd0 : bd = false := by
    cases bd with
    | false => rfl
    | true => simp at hbc
  have hv := hq hbd0
  have main : ∃ code, rckO = some code ∧ Tells (Goes (rckP v t n)) X (evT X) 27 0 code (r8Fr (8 * n)) [some (vaO v), some (tyO t)] := by
    rcases hv with h | h | h | h | h | h | h | h
    · exact rckR v t n hF (.inl h)
    · exact rck1 v t n hn h
    · exact rckB v t n 2 (.inl rfl) hn h
    · exact rckB v t n 3 (.inr (.inl rfl)) hn h
    · exact rckB v t n 4 (.inr (.inr rfl)) hn h
    · exact rckR v t n hF (.inr (.inl h))
    · exact rckR v t n hF (.inr (.inr (.inl h)))
    · exact rckR v t n hF (.inr (.inr (.inr h)))
  apply Tells.andThen (P := rckP v t n)
  · exact pieceT main _ rfl
  rintro fr H ⟨rfl, h6, f, hfr⟩
  have hf : f = rbk v n t.t := by
    rcases hfr with rfl | rfl
    · simpa [getF] using h6
    · simpa [getF] using h6
  subst hf
  generalize rbk v n t.t = f at *
  cases f with
  | true =>
    refine Tells.of (o := ⟨.ret, [(4, .int .i64 2)], [some (vaO v), some (tyO t)]⟩) ⟨0, ?_⟩ ⟨rfl, rfl⟩
    rcases hfr with rfl | rfl
    · simp (maxSteps := 2000000) -implicitDefEqProofs [-getElem?_pos, List.getElem?_cons_zero, List.getElem?_cons_succ, go_sem, eqV, plen, loadV, storeV]
    · simp (maxSteps := 2000000) -implicitDefEqProofs [-getElem?_pos, List.getElem?_cons_zero, List.getElem?_cons_succ, go_sem, eqV, plen, loadV, storeV]
  | false =>
    refine Tells.of (o := ⟨.ret, [(4, .int .i64 0)], [some (vaO v), some (tyO t)]⟩) ⟨0, ?_⟩ ⟨rfl, rfl⟩
    rcases hfr with rfl | rfl
    · simp (maxSteps := 2000000) -implicitDefEqProofs [-getElem?_pos, List.getElem?_cons_zero, List.getElem?_cons_succ, go_sem, eqV, plen, loadV, storeV]
    · simp (maxSteps := 2000000) -implicitDefEqProofs [-getElem?_pos, List.getElem?_cons_zero, List.getElem?_cons_succ, go_sem, eqV, plen, loadV, storeV]

end

theorem c81_iff (v : Va) : c81 v = false ↔ (v.k = 1 ∨ v.i = 0) ∧ (v.k = 2 ∨ v.k = 3 ∨ v.k = 4 ∨ v.b = 0) ∧ (v.k = 7 ∨ v.t = []) ∧ (v.k = 5 ∨ v.k = 6 ∨ v.w = {}) := by
  unfold c81
  simp only [Bool.or_eq_false_iff, Bool.and_eq_false_iff, bne_eq_false_iff_eq, Bool.not_eq_false', beq_iff_eq, decide_eq_true_eq]
  constructor
  · rintro ⟨⟨⟨h1, h2⟩, h3⟩, h4⟩
    refine ⟨h1, ?_, h3, ?_⟩
    · rcases h2 with h2 | h2
      · rcases h2 with (h2 | h2) | h2
        · exact .inl h2
        · exact .inr (.inl h2)
        · exact .inr (.inr (.inl h2))
      · exact .inr (.inr (.inr (by omega)))
    · rcases h4 with h4 | h4
      · rcases h4 with h4 | h4
        · exact .inl h4
        · exact .inr (.inl h4)
      · exact .inr (.inr h4)
  · rintro ⟨h1, h2, h3, h4⟩
    refine ⟨⟨⟨h1, ?_⟩, h3⟩, ?_⟩
    · rcases h2 with h2 | h2 | h2 | h2
      · exact .inl (.inl (.inl h2))
      · exact .inl (.inl (.inr h2))
      · exact .inl (.inr h2)
      · exact .inr (by rw [h2]; rfl)
    · rcases h4 with h4 | h4 | h4
      · exact .inl (.inl h4)
      · exact .inl (.inr h4)
      · exact .inr h4

theorem rsize_eq {t : Nat} (h : sizeN t ≠ 0) : rsizeN t = sizeN t := by
  unfold sizeN at h ⊢
  unfold rsizeN
  repeat' split
  all_goals first | rfl | (simp_all; done) | omega

theorem both_chk (v : Va) (t : Ty) : rchkV v t = chkV v t := by
  unfold rchkV chkV okVa
  have hbd := kind_bd t.t t.u
  have hsz := size_num (t := t.t) (u := t.u)
  have hrs := rsize_eq (t := t.t)
  generalize kindN t.t t.u = k at *
  by_cases hk : k < 0
  · have : bad0 v k = true := by unfold bad0; simp [hk]
    rw [this, if_pos hk, if_pos (by simp)]
  rw [if_neg hk]
  have hb0 : bad0 v k = decide (v.k ≠ 0 ∧ v.k ≠ k) := by
    unfold bad0
    rw [Bool.eq_iff_iff]; simp; omega
  rw [hb0]
  by_cases hz : v = {}
  · subst hz
    rw [if_pos rfl]
    have h1 : c81 ({} : Va) = false := by decide
    have h2 : ∀ n tt, rbk ({} : Va) n tt = false := fun n tt => by unfold rbk; simp
    rw [h1, h2]
    simp
  rw [if_neg hz]
  cases hc : c81 v with
  | true =>
    rw [if_pos (by simp)]
    -- something stands where nothing may
    have hno : ∀ p, c81 v ≠ false → ¬ p → p = p → okVk v k (sizeN t.t) t.t = okVk v k (sizeN t.t) t.t := fun _ _ _ _ => rfl
    clear hno
    have hok : okVk v k (sizeN t.t) t.t = false := by
      have hne : ¬ c81 v = false := by rw [hc]; simp
      rw [c81_iff] at hne
      unfold okVk
      by_cases k1 : v.k = 1
      · rw [if_pos k1]
        have : decide (v = { k := 1, i := v.i }) = false := by
          rw [decide_eq_false_iff_not]
          intro h
          apply hne
          rw [h]
          exact ⟨.inl rfl, .inr (.inr (.inr rfl)), .inr rfl, .inr (.inr rfl)⟩
        rw [this]; simp
      rw [if_neg k1]
      by_cases k2 : v.k = 2 ∨ v.k = 3 ∨ v.k = 4
      · rw [if_pos k2]
        have : decide (v = { k := v.k, b := v.b }) = false := by
          rw [decide_eq_false_iff_not]
          intro h
          apply hne
          have h3 : v.i = 0 := by rw [h]
          have h4 : v.t = [] := by rw [h]
          have h5 : v.w = {} := by rw [h]
          refine ⟨.inr h3, ?_, .inr h4, .inr (.inr h5)⟩
          rcases k2 with k2 | k2 | k2
          · exact .inl k2
          · exact .inr (.inl k2)
          · exact .inr (.inr (.inl k2))
        rw [this]; simp
      rw [if_neg k2]
      by_cases k5 : v.k = 5 ∨ v.k = 6
      · rw [if_pos k5]
        have : decide (v = { k := v.k, w := v.w }) = false := by
          rw [decide_eq_false_iff_not]
          intro h
          apply hne
          have h3 : v.i = 0 := by rw [h]
          have h4 : v.t = [] := by rw [h]
          have h5 : v.b = 0 := by rw [h]
          refine ⟨.inr h3, .inr (.inr (.inr h5)), .inr h4, ?_⟩
          rcases k5 with k5 | k5
          · exact .inl k5
          · exact .inr (.inl k5)
        rw [this]; simp
      rw [if_neg k5]
      by_cases k7 : v.k = 7
      · rw [if_pos k7]
        have : decide (v = { k := 7, t := v.t }) = false := by
          rw [decide_eq_false_iff_not]
          intro h
          apply hne
          have h3 : v.i = 0 := by rw [h]
          have h4 : v.b = 0 := by rw [h]
          have h5 : v.w = {} := by rw [h]
          exact ⟨.inr h3, .inr (.inr (.inr h4)), .inl k7, .inr (.inr h5)⟩
        rw [this]; simp
      rw [if_neg k7]
    rw [hok]; rfl
  | false =>
    obtain ⟨c1, c2, c3, c4⟩ := (c81_iff v).1 hc
    obtain ⟨vk, vi, vb, vt, vw⟩ := v
    simp only at *
    unfold okVk rbk
    simp only
    by_cases k1 : vk = 1
    · subst k1
      have e1 : vb = 0 := by omega
      have e2 : vt = [] := by rcases c3 with h | h; exact absurd h (by decide); exact h
      have e3 : vw = {} := by rcases c4 with h | h | h; exact absurd h (by decide); exact absurd h (by decide); exact h
      subst e1 e2 e3
      by_cases hk1 : k = 1
      · subst hk1
        rw [hrs (by have := hsz (.inl rfl); omega)]
        cases okI vi (sizeN t.t) <;> simp
      · have : ¬ (1 : Int) = k := by omega
        simp [hk1, this]
    by_cases k2 : vk = 2 ∨ vk = 3 ∨ vk = 4
    · have e1 : vi = 0 := by rcases c1 with h | h; exact absurd h k1; exact h
      have e2 : vt = [] := by rcases c3 with h | h; omega; exact h
      have e3 : vw = {} := by rcases c4 with h | h | h; omega; omega; exact h
      subst e1 e2 e3
      have k0 : vk ≠ 0 := by omega
      by_cases hk1 : k = vk
      · subst hk1
        rw [hrs (by have := hsz (by omega); omega)]
        cases okB vb (sizeN t.t) <;> simp [k1, k2]
      · have : ¬ vk = k := by omega
        simp [hk1, this, k1, k2, k0]
    by_cases k5 : vk = 5 ∨ vk = 6
    · have e1 : vi = 0 := by rcases c1 with h | h; exact absurd h k1; exact h
      have e2 : vt = [] := by rcases c3 with h | h; omega; exact h
      have e3 : vb = 0 := by omega
      subst e1 e2 e3
      have k0 : vk ≠ 0 := by omega
      by_cases hk1 : k = vk
      · subst hk1
        cases fin vw t.t <;> simp [k1, k2, k5]
      · have : ¬ vk = k := by omega
        simp [hk1, this, k1, k2, k5, k0]
    by_cases k7 : vk = 7
    · subst k7
      have e1 : vi = 0 := by rcases c1 with h | h; exact absurd h k1; exact h
      have e2 : vb = 0 := by omega
      have e3 : vw = {} := by rcases c4 with h | h | h; omega; omega; exact h
      subst e1 e2 e3
      by_cases hk1 : k = 7
      · subst hk1
        by_cases hl : vt.length ≤ 16777216
        · have : ¬ 16777216 < vt.length := by omega
          simp [hl, this]
        · have : 16777216 < vt.length := by omega
          simp [hl, this]
      · have : ¬ (7 : Int) = k := by omega
        simp [hk1, this]
    have e1 : vi = 0 := by rcases c1 with h | h; exact absurd h k1; exact h
    have e2 : vt = [] := by rcases c3 with h | h; exact absurd h k7; exact h
    have e3 : vb = 0 := by omega
    have e4 : vw = {} := by rcases c4 with h | h | h; omega; omega; exact h
    subst e1 e2 e3 e4
    have k0 : vk ≠ 0 := by
      intro h; subst h; exact hz rfl
    have hkk : ¬ vk = k := by omega
    simp [k0, hkk, k1, k2, k5, k7]

theorem rcheck_ev {v : Va} {t : Ty} (ht : t.t < 256) (H : AM.Heap) : evT X 27 [.agg v.pay, .agg t.pay] H = some (.int .i64 (chkV v t), H) := by
  obtain ⟨code, hcode, o, ⟨he, h4⟩, hr⟩ := rcheck_code v t ht
  rw [both_chk] at h4
  exact evT_eq (Ev1.toldP (l := [.int .i64 (chkV v t)]) (evT_below X) Try.func27 hcode (args_va (i := 0) (args_ty (i := 1) (args_nil 2))) (by simp [Va.pay, Ty.pay, idsL, ids]) (by simp [gtag]) rfl rfl rfl ⟨o, ⟨he, by show some [getF o.fr 4] = _; rw [h4]⟩, hr⟩)

end Go.Proofs.Ytbmddnokokoofaa
