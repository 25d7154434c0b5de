/- D6b to L3: texts of this claim, one behind the other; what each shows stands at its head. -/
import Derived.Test.YtifgkkfchnfcaaaDoorMg1
/- Walks: formatBase10 to its end; numDigits. -/
namespace Go.Proofs.YtifgkkfchnfcaaaDoor
open Go.AM
set_option linter.unusedSimpArgs false
set_option linter.unusedVariables false

theorem top_lt {u0 nd N : Nat} (h : u0 < 10 ^ nd) (hN : N ≤ nd) : u0 / 10 ^ (nd - N) < 10 ^ N := by
  rw [Nat.div_lt_iff_lt_mul (Nat.pow_pos (by omega)), ← Nat.pow_add, show N + (nd - N) = nd by omega]
  exact h

section
variable (off nd : Nat)

def FbT (u0 len N : Nat) (fr : AM.Frame) (H : AM.Heap) : Prop := ∃ B tl, fr = fbFr off nd N ([(12, .int .u32 ((u0 / 10 ^ (nd - N) : Nat) : Int))] ++ tl) ∧ H = [some (fbO B)] ∧ FbS B (dgs u0 (nd - N)) off nd N len

set_option maxRecDepth 100000 in
set_option maxHeartbeats 4000000 in
theorem fb_s4 (len u0 N : Nat) (fr : AM.Frame) (H : AM.Heap) (hu0 : u0 < 10 ^ nd) (hN8 : N < 8) (hN : N ≤ nd) (hl : off + nd ≤ len) (hlen : len ≤ 1000) (h : FbT off nd u0 len N fr H) :
    ∃ code, ((Tryd.f59.body).bind (codeAt [1, 1, 1, 0])) = some code ∧ Tells (Goes fun fr H => ∃ N2, N2 < 4 ∧ N2 ≤ nd ∧ FbT off nd u0 len N2 fr H) X (evT X) 59 1 code fr H := by
  refine ⟨_, rfl, ?_⟩
  obtain ⟨B, tl, rfl, rfl, hS⟩ := h
  obtain ⟨u, hu⟩ : ∃ u, u = u0 / 10 ^ (nd - N) := ⟨_, rfl⟩
  rw [← hu]
  have hul : u < 10 ^ N := by rw [hu]; exact top_lt hu0 hN
  by_cases h4 : N < 4
  · have h4I : ¬ ((4 : Int) ≤ (N : Int)) := by omega
    have h4N : ¬ (4 ≤ N) := by omega
    refine Tells.of (o := ⟨.normal, fbFr off nd N [(12, .int .u32 (u : Nat)), (99, .bool false)], [some (fbO B)]⟩) ⟨0, ?_⟩ ⟨rfl, N, h4, hN, B, [(99, .bool false)], by rw [← hu]; rfl, rfl, hS⟩
    unfold fbFr
    simp (maxSteps := 2000000) -implicitDefEqProofs [-getElem?_pos, List.getElem?_cons_zero, List.getElem?_cons_succ, go_sem, eqV, plen, loadV, storeV, h4I, h4N]
  have h4I : (4 : Int) ≤ (N : Int) := by omega
  have h4N : 4 ≤ N := by omega
  have hul8 : u < 100000000 := by
    have : (10 : Nat) ^ N ≤ 10 ^ 8 := Nat.pow_le_pow_right (by omega) (by omega)
    have : (10 : Nat) ^ 8 = 100000000 := by decide
    omega
  apply Tells.seq (fr' := fbFr off nd N [(12, .int .u32 (u : Nat)), (99, .bool true)]) (H' := [some (fbO B)])
  · unfold fbFr
    (refine ⟨0, ?_⟩; simp (maxSteps := 2000000) -implicitDefEqProofs [-getElem?_pos, List.getElem?_cons_zero, List.getElem?_cons_succ, go_sem, eqV, plen, loadV, storeV, h4I, h4N])
  refine Tells.condT rfl ?_
  obtain ⟨M, rfl⟩ : ∃ M, N = M + 4 := ⟨N - 4, by omega⟩
  have hB := hS.1
  obtain ⟨b, hb⟩ : ∃ b, b = u % 10000 := ⟨_, rfl⟩
  have b1 : (u : Int).tmod 10000 = (b : Int) := by have := tmN u 10000; rw [← hb] at this; exact this
  have b1' : (u : Int) % 10000 = (b : Int) := by omega
  apply Tells.seq (fr' := fbFr off nd (M + 4) [(12, .int .u32 (u : Nat)), (13, .int .u32 (b : Nat))]) (H' := [some (fbO B)])
  · generalize M + 4 = M4 at *
    unfold fbFr
    (refine ⟨0, ?_⟩; simp (maxSteps := 2000000) -implicitDefEqProofs [-getElem?_pos, List.getElem?_cons_zero, List.getElem?_cons_succ, go_sem, eqV, plen, loadV, storeV, b1, b1'])
  obtain ⟨q, hq⟩ : ∃ q, q = u / 10000 := ⟨_, rfl⟩
  have g1 : (u : Int).tdiv 10000 = (q : Int) := by have := tdN u 10000; rw [← hq] at this; exact this
  have g1' : (u : Int) / 10000 = (q : Int) := by omega
  have g2 : IntKind.u32.wrap (q : Int) = (q : Int) := wu32 (by omega)
  apply Tells.seq (fr' := fbFr off nd (M + 4) [(12, .int .u32 (q : Nat)), (13, .int .u32 (b : Nat))]) (H' := [some (fbO B)])
  · generalize M + 4 = M4 at *
    unfold fbFr
    (refine ⟨0, ?_⟩; simp (maxSteps := 2000000) -implicitDefEqProofs [-getElem?_pos, List.getElem?_cons_zero, List.getElem?_cons_succ, go_sem, eqV, plen, loadV, storeV, g1, g1', g2])
  have dm : ∀ z : Nat, z < 10000 → (z : Int).tdiv 100 = ((z / 100 : Nat) : Int) ∧ (z : Int) / 100 = ((z / 100 : Nat) : Int) ∧ IntKind.u32.wrap ((z / 100 : Nat) : Int) = ((z / 100 : Nat) : Int) ∧ IntKind.u32.wrap (((z / 100 : Nat) : Int) * 2) = ((2 * (z / 100) : Nat) : Int) ∧ (z : Int).tmod 100 = ((z % 100 : Nat) : Int) ∧ (z : Int) % 100 = ((z % 100 : Nat) : Int) ∧ IntKind.u32.wrap (((z % 100 : Nat) : Int) * 2) = ((2 * (z % 100) : Nat) : Int) := by
    intro z hz
    refine ⟨tdN z 100, by omega, wu32 (by omega), ?_, tmN z 100, by omega, ?_⟩
    · rw [show ((z / 100 : Nat) : Int) * 2 = ((2 * (z / 100) : Nat) : Int) by omega]; exact wu32 (by omega)
    · rw [show ((z % 100 : Nat) : Int) * 2 = ((2 * (z % 100) : Nat) : Int) by omega]; exact wu32 (by omega)
  obtain ⟨p1, p2, p3, p4, p5, p6, p7⟩ := dm b (by omega)
  apply Tells.seq (fr' := fbFr off nd (M + 4) [(12, .int .u32 (q : Nat)), (14, .int .u32 ((2 * (b / 100) : Nat) : Int)), (15, .int .u32 ((2 * (b % 100) : Nat) : Int))]) (H' := [some (fbO B)])
  · generalize M + 4 = M4 at *
    generalize b / 100 = bq at *
    generalize b % 100 = bm at *
    generalize hh1 : 2 * bq = bq2 at *
    generalize hh2 : 2 * bm = bm2 at *
    unfold fbFr
    (refine ⟨0, ?_⟩; simp (maxSteps := 2000000) -implicitDefEqProofs [-getElem?_pos, List.getElem?_cons_zero, List.getElem?_cons_succ, go_sem, eqV, plen, loadV, storeV, p1, p2, p3, p4, p5, p6, p7])
  have s1 := hS.pair (M := M + 2) hN (by omega) (dch (b % 100 / 10)) (dch (b % 100 % 10))
  have s2 := s1.pair (M := M) (by omega) (by omega) (dch (b / 100 / 10)) (dch (b / 100 % 10))
  have hdg : dch (b / 100 / 10) :: dch (b / 100 % 10) :: dch (b % 100 / 10) :: dch (b % 100 % 10) :: dgs u0 (nd - (M + 4)) = dgs u0 (nd - M) := by
    have p1 := pairs4 (x := u) (a := b / 100) (b := b % 100) (by rw [hb]) (by rw [hb])
    rw [show nd - M = 4 + (nd - (M + 4)) by omega, dgs_add (nd - (M + 4)) 4 u0, ← hu, ← p1]
    rfl
  rw [hdg] at s2
  have r17 := fb_r17 B off nd (M + 4) (b % 100) _ (M + 2 + 1) (M + 2) (.int .u32 (q : Nat)) (.int .u32 ((2 * (b / 100) : Nat) : Int)) (by omega) rfl (by omega) (by omega) (by omega) (by omega) (by omega) (by omega)
  apply Tells.seq (piece r17 _ rfl)
  have r18 := fb_r18 ((B.set (off + (M + 2 + 1)) (dch (b % 100 % 10))).set (off + (M + 2)) (dch (b % 100 / 10))) off nd (M + 4) (b / 100) _ (M + 1) M (.int .u32 (q : Nat)) (by omega) rfl (by omega) (by omega) (by simp only [List.length_set]; omega) (by simp only [List.length_set]; omega) (by omega) (by omega)
  apply Tells.seq (piece r18 _ rfl)
  have w4 : IntKind.i64.wrap (((M + 4 : Nat) : Int) - 4) = (M : Int) := by rw [wrap_i64 (by omega) (by omega)]; omega
  have hqe : q = u0 / 10 ^ (nd - M) := by
    rw [hq, hu, Nat.div_div_eq_div_mul, show (10000 : Nat) = 10 ^ 4 by decide, ← Nat.pow_add, show nd - (M + 4) + 4 = nd - M by omega]
  refine Tells.of (o := ⟨.normal, fbFr off nd M [(12, .int .u32 (q : Nat))], _⟩) ⟨0, ?_⟩ ⟨rfl, M, by omega, by omega, _, [], by rw [← hqe]; rfl, rfl, s2⟩
  unfold fbFr
  generalize hM4 : M + 4 = M4 at *
  simp (maxSteps := 2000000) -implicitDefEqProofs [-getElem?_pos, List.getElem?_cons_zero, List.getElem?_cons_succ, go_sem, eqV, plen, loadV, storeV, w4]

set_option maxRecDepth 100000 in
set_option maxHeartbeats 4000000 in
theorem fb_s2 (len u0 N : Nat) (fr : AM.Frame) (H : AM.Heap) (hu0 : u0 < 10 ^ nd) (hN8 : N < 4) (hN : N ≤ nd) (hl : off + nd ≤ len) (hlen : len ≤ 1000) (h : FbT off nd u0 len N fr H) :
    ∃ code, ((Tryd.f59.body).bind (codeAt [1, 1, 1, 1, 0])) = some code ∧ Tells (Goes fun fr H => ∃ N2, N2 < 2 ∧ N2 ≤ nd ∧ FbT off nd u0 len N2 fr H) X (evT X) 59 1 code fr H := by
  refine ⟨_, rfl, ?_⟩
  obtain ⟨B, tl, rfl, rfl, hS⟩ := h
  obtain ⟨u, hu⟩ : ∃ u, u = u0 / 10 ^ (nd - N) := ⟨_, rfl⟩
  rw [← hu]
  have hul : u < 10 ^ N := by rw [hu]; exact top_lt hu0 hN
  by_cases h4 : N < 2
  · have h4I : ¬ ((2 : Int) ≤ (N : Int)) := by omega
    have h4N : ¬ (2 ≤ N) := by omega
    refine Tells.of (o := ⟨.normal, fbFr off nd N [(12, .int .u32 (u : Nat)), (139, .bool false)], [some (fbO B)]⟩) ⟨0, ?_⟩ ⟨rfl, N, h4, hN, B, [(139, .bool false)], by rw [← hu]; rfl, rfl, hS⟩
    unfold fbFr
    simp (maxSteps := 2000000) -implicitDefEqProofs [-getElem?_pos, List.getElem?_cons_zero, List.getElem?_cons_succ, go_sem, eqV, plen, loadV, storeV, h4I, h4N]
  have h4I : (2 : Int) ≤ (N : Int) := by omega
  have h4N : 2 ≤ N := by omega
  have hul8 : u < 10000 := by
    have : (10 : Nat) ^ N ≤ 10 ^ 4 := Nat.pow_le_pow_right (by omega) (by omega)
    have : (10 : Nat) ^ 4 = 10000 := by decide
    omega
  apply Tells.seq (fr' := fbFr off nd N [(12, .int .u32 (u : Nat)), (139, .bool true)]) (H' := [some (fbO B)])
  · unfold fbFr
    (refine ⟨0, ?_⟩; simp (maxSteps := 2000000) -implicitDefEqProofs [-getElem?_pos, List.getElem?_cons_zero, List.getElem?_cons_succ, go_sem, eqV, plen, loadV, storeV, h4I, h4N])
  refine Tells.condT rfl ?_
  obtain ⟨M, rfl⟩ : ∃ M, N = M + 2 := ⟨N - 2, by omega⟩
  have hB := hS.1
  obtain ⟨b, hb⟩ : ∃ b, b = u % 100 := ⟨_, rfl⟩
  have b1 : (u : Int).tmod 100 = (b : Int) := by have := tmN u 100; rw [← hb] at this; exact this
  have b1' : (u : Int) % 100 = (b : Int) := by omega
  have b2 : IntKind.u32.wrap ((b : Int) * 2) = ((2 * b : Nat) : Int) := by rw [show (b : Int) * 2 = ((2 * b : Nat) : Int) by omega]; exact wu32 (by omega)
  apply Tells.seq (fr' := fbFr off nd (M + 2) [(12, .int .u32 (u : Nat)), (16, .int .u32 ((2 * b : Nat) : Int))]) (H' := [some (fbO B)])
  · generalize M + 2 = M4 at *
    generalize hh2 : 2 * b = bm2 at *
    unfold fbFr
    (refine ⟨0, ?_⟩; simp (maxSteps := 2000000) -implicitDefEqProofs [-getElem?_pos, List.getElem?_cons_zero, List.getElem?_cons_succ, go_sem, eqV, plen, loadV, storeV, b1, b1', b2])
  obtain ⟨q, hq⟩ : ∃ q, q = u / 100 := ⟨_, rfl⟩
  have g1 : (u : Int).tdiv 100 = (q : Int) := by have := tdN u 100; rw [← hq] at this; exact this
  have g1' : (u : Int) / 100 = (q : Int) := by omega
  have g2 : IntKind.u32.wrap (q : Int) = (q : Int) := wu32 (by omega)
  apply Tells.seq (fr' := fbFr off nd (M + 2) [(12, .int .u32 (q : Nat)), (16, .int .u32 ((2 * b : Nat) : Int))]) (H' := [some (fbO B)])
  · generalize M + 2 = M4 at *
    generalize hh2 : 2 * b = bm2 at *
    unfold fbFr
    (refine ⟨0, ?_⟩; simp (maxSteps := 2000000) -implicitDefEqProofs [-getElem?_pos, List.getElem?_cons_zero, List.getElem?_cons_succ, go_sem, eqV, plen, loadV, storeV, g1, g1', g2])
  have s1 := hS.pair (M := M) hN (by omega) (dch (b / 10)) (dch (b % 10))
  have hdg : dch (b / 10) :: dch (b % 10) :: dgs u0 (nd - (M + 2)) = dgs u0 (nd - M) := by
    have h1 : b / 10 = u / 10 % 10 := by omega
    have h2 : b % 10 = u % 10 := by omega
    rw [show nd - M = 2 + (nd - (M + 2)) by omega, dgs_add (nd - (M + 2)) 2 u0, ← hu, dgs_two, h1, h2]
    rfl
  rw [hdg] at s1
  have r23 := fb_r23 B off nd (M + 2) b _ (M + 1) M (.int .u32 (q : Nat)) (by omega) rfl (by omega) (by omega) (by omega) (by omega) (by omega) (by omega)
  apply Tells.seq (piece r23 _ rfl)
  have w4 : IntKind.i64.wrap (((M + 2 : Nat) : Int) - 2) = (M : Int) := by rw [wrap_i64 (by omega) (by omega)]; omega
  have hqe : q = u0 / 10 ^ (nd - M) := by
    rw [hq, hu, Nat.div_div_eq_div_mul, show (100 : Nat) = 10 ^ 2 by decide, ← Nat.pow_add, show nd - (M + 2) + 2 = nd - M by omega]
  refine Tells.of (o := ⟨.normal, fbFr off nd M [(12, .int .u32 (q : Nat))], _⟩) ⟨0, ?_⟩ ⟨rfl, M, by omega, by omega, _, [], by rw [← hqe]; rfl, rfl, s1⟩
  unfold fbFr
  generalize hM4 : M + 2 = M4 at *
  simp (maxSteps := 2000000) -implicitDefEqProofs [-getElem?_pos, List.getElem?_cons_zero, List.getElem?_cons_succ, go_sem, eqV, plen, loadV, storeV, w4]

set_option maxRecDepth 100000 in
set_option maxHeartbeats 4000000 in
theorem fb_s1 (len u0 N : Nat) (fr : AM.Frame) (H : AM.Heap) (hu0 : u0 < 10 ^ nd) (hnd : 1 ≤ nd) (hN8 : N < 2) (hN : N ≤ nd) (hl : off + nd ≤ len) (hlen : len ≤ 1000) (h : FbT off nd u0 len N fr H) :
    ∃ code, ((Tryd.f59.body).bind (codeAt [1, 1, 1, 1, 1])) = some code ∧ Tells (Goes fun fr H => ∃ B, H = [some (fbO B)] ∧ FbS B (dgs u0 nd) off nd 0 len) X (evT X) 59 1 code fr H := by
  refine ⟨_, rfl, ?_⟩
  obtain ⟨B, tl, rfl, rfl, hS⟩ := h
  obtain ⟨u, hu⟩ : ∃ u, u = u0 / 10 ^ (nd - N) := ⟨_, rfl⟩
  rw [← hu]
  have hul : u < 10 ^ N := by rw [hu]; exact top_lt hu0 hN
  have hB := hS.1
  match N, hN8 with
  | 0, _ =>
    refine Tells.of (o := ⟨.normal, [(0, .sl 0 off nd 0), (12, .int .u32 (u : Nat)), (161, .bool false)], [some (fbO B)]⟩) ⟨0, ?_⟩ ⟨rfl, B, rfl, by simpa using hS⟩
    unfold fbFr
    simp (maxSteps := 2000000) -implicitDefEqProofs [-getElem?_pos, List.getElem?_cons_zero, List.getElem?_cons_succ, go_sem, eqV, plen, loadV, storeV]
  | 1, _ =>
    have hu10 : u < 10 := by simpa using hul
    have w1 : IntKind.u32.wrap (48 + (u : Int)) = ((48 + u : Nat) : Int) := by
      rw [show (48 : Int) + (u : Int) = ((48 + u : Nat) : Int) by omega]; exact wu32 (by omega)
    have w2 : IntKind.u8.wrap ((48 + u : Nat) : Int) = ((dch u).toNat : Int) := by
      unfold IntKind.wrap dch; simp [IntKind.signed, IntKind.bits]
    have d1 := dch_lt u
    have b1 : off < B.length := by omega
    have c1 : (0 : Int) < (nd : Int) := by omega
    have c2 : 0 < nd := by omega
    have s1 := hS.one hnd (by omega) (dch u)
    have hdg : dch u :: dgs u0 (nd - 1) = dgs u0 nd := by
      conv => rhs; rw [show nd = 1 + (nd - 1) by omega]
      rw [dgs_add (nd - 1) 1 u0, ← hu, dgs_one, Nat.mod_eq_of_lt hu10]; rfl
    rw [hdg] at s1
    refine Tells.of (o := ⟨.normal, [], [some (fbO (B.set off (dch u)))]⟩) ⟨0, ?_⟩ ⟨rfl, _, rfl, s1⟩
    generalize hz : 48 + u = z at *
    generalize dch u = y at *
    unfold fbFr fbO
    simp (maxSteps := 2000000) -implicitDefEqProofs [-getElem?_pos, List.getElem?_cons_zero, List.getElem?_cons_succ, go_sem, eqV, plen, loadV, storeV, w1, w2, d1, b1, c1, c2, pset, joinTag]

end

set_option maxRecDepth 100000 in
set_option maxHeartbeats 4000000 in
theorem fb_code (off nd len u0 : Nat) (B : List UInt8) (hnd : 1 ≤ nd) (hu0 : u0 < 10 ^ nd) (h64 : u0 < 18446744073709551616) (hl : off + nd ≤ len) (hlen : len ≤ 1000) (hB : B.length = len) : ∃ code, Tryd.f59.body = some code ∧
    Tells (Goes fun fr H => ∃ B, H = [some (fbO B)] ∧ FbS B (dgs u0 nd) off nd 0 len) X (evT X) 59 1 code [(0, .sl 0 off nd 0), (1, .int .u64 (u0 : Nat))] [some (fbO B)] := by
  refine ⟨_, rfl, ?_⟩
  apply Tells.seq (fr' := fbFu off nd nd u0 []) (H' := [some (fbO B)])
  · unfold fbFu fbO
    (refine ⟨0, ?_⟩; simp (maxSteps := 2000000) -implicitDefEqProofs [-getElem?_pos, List.getElem?_cons_zero, List.getElem?_cons_succ, go_sem, eqV, plen, loadV, storeV])
  apply Tells.andThen (piece (fb_loop off nd len u0 B hu0 h64 hl hlen hB) _ rfl)
  rintro fr H ⟨N, B2, hN8, hN, rfl, rfl, hS⟩
  obtain ⟨u, hu⟩ : ∃ u, u = u0 / 10 ^ (nd - N) := ⟨_, rfl⟩
  have hul : u < 10 ^ N := by rw [hu]; exact top_lt hu0 hN
  have hul8 : u < 100000000 := by
    have : (10 : Nat) ^ N ≤ 10 ^ 8 := Nat.pow_le_pow_right (by omega) (by omega)
    have : (10 : Nat) ^ 8 = 100000000 := by decide
    omega
  have w1 : IntKind.u32.wrap (u : Int) = (u : Int) := wu32 (by omega)
  rw [← hu]
  apply Tells.seq (fr' := fbFr off nd N [(12, .int .u32 (u : Nat))]) (H' := [some (fbO B2)])
  · unfold fbFu fbFr
    (refine ⟨0, ?_⟩; simp (maxSteps := 2000000) -implicitDefEqProofs [-getElem?_pos, List.getElem?_cons_zero, List.getElem?_cons_succ, go_sem, eqV, plen, loadV, storeV, w1])
  apply Tells.andThen (piece (fb_s4 off nd len u0 N _ _ hu0 hN8 hN hl hlen ⟨B2, [], by rw [← hu]; rfl, rfl, hS⟩) _ rfl)
  rintro fr H ⟨N2, h1, h2, h3⟩
  apply Tells.andThen (piece (fb_s2 off nd len u0 N2 _ _ hu0 h1 h2 hl hlen h3) _ rfl)
  rintro fr H ⟨N3, h4, h5, h6⟩
  exact piece (fb_s1 off nd len u0 N3 _ _ hu0 hnd h4 h5 hl hlen h6) _ rfl

/-- the bytes that are written into, in the caller's terms -/
def fbP (B : List UInt8) : AM.Obj := ⟨.pb B, 0, some 24, 1, false, false, 0⟩

theorem fb_ev {H : AM.Heap} {o off nd u : Nat} {B : List UInt8} (ho : H[o]? = some (some (fbP B))) (hnd : 1 ≤ nd) (hu : u < 10 ^ nd) (h64 : u < 18446744073709551616) (hl : off + nd ≤ B.length) (hlen : B.length ≤ 1000) :
    ∃ B', FbS B' (dgs u nd) off nd 0 B.length ∧ evT X 59 [.sl o off nd 0, .int .u64 (u : Nat)] H = some (.tup [], upd H o (some (fbP B'))) := by
  obtain ⟨code, hcode, ⟨ex, fr, E⟩, ⟨he, B', hE, hS⟩, hr⟩ := fb_code off nd B.length u B hnd hu h64 hl hlen rfl
  simp only at he hE
  subst he hE
  refine ⟨B', hS, ?_⟩
  have := Ev1.rwS (C := X) (f := 59) (H := H) (o := o) (off := off) (len := nd) (g := 0) (ob := fbP B) (ob1 := fbO B') (xs := [.int .u64 (u : Nat)]) (ys := [.int .u64 (u : Nat)]) (lents := [⟨[], []⟩]) (l := []) (n := 3) (evT_below X) Tryd.func59 hcode rfl ho rfl rfl rfl rfl rfl (by simp [disjoint]) rfl (by simp [gtag])
    (by rw [par59]; exact hr) (.inl rfl) rfl (restH := []) rfl rfl rfl rfl (.inr rfl) rfl rfl
  exact evT_eq this

theorem pow10_at : ∀ t : Fin 20, ([1, 10, 100, 1000, 10000, 100000, 1000000, 10000000, 100000000, 1000000000, 10000000000, 100000000000, 1000000000000, 10000000000000, 100000000000000, 1000000000000000, 10000000000000000, 100000000000000000, 1000000000000000000, 10000000000000000000] : List Int)[t.val]? = some ((10 ^ t.val : Nat) : Int) := by decide +kernel

theorem log_ev {H : AM.Heap} {n : Nat} (h : n < 65) : evT X 63 [.int .i64 (n : Nat)] H = some (.int .i64 ((n * 78913 / 2 ^ 18 : Nat) : Int), H) :=
  evT_eq (Ev1.each (T := fun _ _ _ => none) Below.none (n := 50) (N := 65) (a := fun k => .int .i64 (k : Nat)) (v := fun n => .int .i64 ((n * 78913 / 2 ^ 18 : Nat) : Int)) (by kernel_rfl) (fun _ => rfl) h H)
theorem b2_ev {H : AM.Heap} (b : Bool) : evT X 65 [.bool b] H = some (.int .i64 (if b then 1 else 0), H) := by
  cases b
  · exact evT_eq (Ev1.triedP (T := fun _ _ _ => none) Below.none (n := 50) (by kernel_rfl) rfl H)
  · exact evT_eq (Ev1.triedP (T := fun _ _ _ => none) Below.none (n := 50) (by kernel_rfl) rfl H)

theorem g_pow : X.G 0 = some (.pi .u64 [1, 10, 100, 1000, 10000, 100000, 1000000, 10000000, 100000000, 1000000000, 10000000000, 100000000000, 1000000000000, 10000000000000, 100000000000000, 1000000000000000, 10000000000000000, 100000000000000000, 1000000000000000000, 10000000000000000000]) := rfl

set_option maxRecDepth 100000 in
set_option maxHeartbeats 4000000 in
theorem numD_code (x : Nat) (hx : 0 < x) (h64 : x < 18446744073709551616) : ∃ code, Tryd.f58.body = some code ∧
    Tells (Rets fun fr H => getF fr 2 = .int .i64 (ndN x : Nat)) X (evT X) 58 0 code [(0, .int .u64 (x : Nat))] [] := by
  refine ⟨_, rfl, ?_⟩
  obtain ⟨n, hb, hL⟩ := len64_ev (H := []) h64
  have hlog := log_ev (H := []) (n := n) (by have := hb.1; omega)
  obtain ⟨h19, hnd⟩ := nd_of hx hb
  obtain ⟨t, ht⟩ : ∃ t, t = n * 78913 / 2 ^ 18 := ⟨_, rfl⟩
  rw [← ht] at hlog h19 hnd
  have hp := pow10_at ⟨t, by omega⟩
  simp only at hp
  have t20 : (t : Int) < 20 := by omega
  have t20N : t < 20 := by omega
  apply Tells.seq (fr' := [(0, .int .u64 (x : Nat))]) (H' := [])
  · (refine ⟨0, ?_⟩; simp (maxSteps := 2000000) -implicitDefEqProofs [-getElem?_pos, List.getElem?_cons_zero, List.getElem?_cons_succ, go_sem, eqV, plen, loadV, storeV])
  apply Tells.seq (fr' := [(0, .int .u64 (x : Nat)), (3, .int .i64 (t : Nat))]) (H' := [])
  · (refine ⟨0, ?_⟩; simp (maxSteps := 2000000) -implicitDefEqProofs [-getElem?_pos, List.getElem?_cons_zero, List.getElem?_cons_succ, go_sem, eqV, plen, loadV, storeV, hL, hlog])
  refine Tells.of (o := ⟨.ret, [(2, .int .i64 (ndN x : Nat))], []⟩) ⟨0, ?_⟩ ⟨rfl, rfl⟩
  have hB := fun b => b2_ev (H := []) b
  generalize hP : 10 ^ t = P at *
  by_cases hc : P ≤ x
  · have hcI : (P : Int) ≤ (x : Int) := by omega
    have w1 : IntKind.i64.wrap ((t : Int) + 1) = ((ndN x : Nat) : Int) := by rw [wrap_i64 (by omega) (by omega), hnd, if_pos hc]; omega
    generalize ndN x = N at *
    simp (maxSteps := 2000000) -implicitDefEqProofs [-getElem?_pos, List.getElem?_cons_zero, List.getElem?_cons_succ, go_sem, eqV, plen, loadV, storeV, g_pow, hp, t20, t20N, hc, hcI, hB, w1]
  · have hcI : ¬ ((P : Int) ≤ (x : Int)) := by omega
    have w1 : IntKind.i64.wrap ((t : Int) + 0) = ((ndN x : Nat) : Int) := by rw [wrap_i64 (by omega) (by omega), hnd, if_neg hc]; omega
    have w1' : IntKind.i64.wrap (t : Int) = ((ndN x : Nat) : Int) := by rw [wrap_i64 (by omega) (by omega), hnd, if_neg hc]; omega
    generalize ndN x = N at *
    simp (maxSteps := 2000000) -implicitDefEqProofs [-getElem?_pos, List.getElem?_cons_zero, List.getElem?_cons_succ, go_sem, eqV, plen, loadV, storeV, g_pow, hp, t20, t20N, hc, hcI, hB, w1, w1']

theorem numD_ev {H : AM.Heap} {x : Nat} (hx : 0 < x) (h64 : x < 18446744073709551616) : ndN x ≤ 20 ∧ evT X 58 [.int .u64 (x : Nat)] H = some (.int .i64 (ndN x : Nat), H) := by
  obtain ⟨n, hb, hL⟩ := len64_ev (H := []) h64
  obtain ⟨h19, hnd⟩ := nd_of hx hb
  refine ⟨by rw [hnd]; split <;> omega, ?_⟩
  obtain ⟨code, hcode, o, ⟨he, h4⟩, hr⟩ := numD_code x hx h64
  exact evT_eq (Ev1.toldP (l := [.int .i64 (ndN x : Nat)]) (evT_below X) Tryd.func58 hcode (args_flat (i := 0) rfl rfl (args_nil 1)) rfl (by simp [gtag]) rfl rfl rfl ⟨o, ⟨he, by show some [getF o.fr 2] = _; rw [h4]⟩, hr⟩)

end Go.Proofs.YtifgkkfchnfcaaaDoor

/- Walks: FormatInt, FormatUint, Itoa. -/
namespace Go.Proofs.YtifgkkfchnfcaaaDoor
open Go.AM
set_option linter.unusedSimpArgs false
set_option linter.unusedVariables false

/-- a small number's text -/
def smT (k : Nat) : List UInt8 := if k < 10 then [UInt8.ofNat (48 + k)] else [UInt8.ofNat (48 + k / 10), UInt8.ofNat (48 + k % 10)]
theorem smT_eq {k : Nat} (h : k < 100) : smT k = decB k := by
  unfold smT decB
  by_cases h1 : k < 10
  · rw [if_pos h1]
    have : ndN k = 1 := by unfold ndN; rw [if_pos h1]
    rw [this, dgs_one, Nat.mod_eq_of_lt h1]; rfl
  · rw [if_neg h1]
    have : ndN k = 2 := by
      unfold ndN; rw [if_neg h1]; unfold ndN; rw [if_pos (by omega)]
    rw [this, dgs_two, Nat.mod_eq_of_lt (show k / 10 < 10 by omega)]; rfl

theorem small_ev {H : AM.Heap} {k : Nat} (h : k < 100) : evT X 57 [.int .i64 (k : Nat)] H = some (.str (decB k), H) := by
  rw [← smT_eq h]
  exact evT_eq (Ev1.each (T := fun _ _ _ => none) Below.none (n := 100) (N := 100) (a := fun k => .int .i64 (k : Nat)) (v := fun k => .str (smT k)) (by kernel_rfl) (fun _ => rfl) h H)

theorem al24 : zeroAV X 78 = .agg (.pb (List.replicate 24 0)) := by kernel_rfl

section
variable (x : Nat)

set_option maxRecDepth 100000 in
set_option maxHeartbeats 4000000 in
theorem fmtU_code (hx : x < 18446744073709551616) : ∃ code, Tryd.f44.body = some code ∧
    Tells (Rets fun fr H => getF fr 4 = .str (decB x)) X (evT X) 44 0 code [(0, .int .u64 (x : Nat)), (1, .int .i64 10)] [] := by
  refine ⟨_, rfl, ?_⟩
  apply Tells.seq (fr' := [(0, .int .u64 (x : Nat)), (1, .int .i64 10)]) (H' := [])
  · (refine ⟨0, ?_⟩; simp (maxSteps := 2000000) -implicitDefEqProofs [-getElem?_pos, List.getElem?_cons_zero, List.getElem?_cons_succ, go_sem, eqV, plen, loadV, storeV])
  apply Tells.assoc
  apply Tells.seq (fr' := [(0, .int .u64 (x : Nat)), (1, .int .i64 10), (10, .bool true)]) (H' := [])
  · (refine ⟨0, ?_⟩; simp (maxSteps := 2000000) -implicitDefEqProofs [-getElem?_pos, List.getElem?_cons_zero, List.getElem?_cons_succ, go_sem, eqV, plen, loadV, storeV])
  refine Tells.seqOut (Tells.condT rfl ?_) (fun o h => by rw [h.1]; simp)
  by_cases h : x < 100
  · have hI : (x : Int) < 100 := by omega
    have hS := fun H => small_ev (H := H) h
    have w : IntKind.i64.wrap (x : Int) = (x : Int) := wrap_i64 (by omega) (by omega)
    refine Tells.of (o := ⟨.ret, [(4, .str (decB x))], []⟩) ⟨0, ?_⟩ ⟨rfl, rfl⟩
    simp (maxSteps := 2000000) -implicitDefEqProofs [-getElem?_pos, List.getElem?_cons_zero, List.getElem?_cons_succ, go_sem, eqV, plen, loadV, storeV, h, hI, hS, w]
  have hI : ¬ (x : Int) < 100 := by omega
  apply Tells.assoc
  apply Tells.seq (fr' := [(0, .int .u64 (x : Nat)), (12, .bool false)]) (H' := [])
  · (refine ⟨0, ?_⟩; simp (maxSteps := 2000000) -implicitDefEqProofs [-getElem?_pos, List.getElem?_cons_zero, List.getElem?_cons_succ, go_sem, eqV, plen, loadV, storeV, h, hI])
  apply Tells.seq (fr' := [(0, .int .u64 (x : Nat)), (12, .bool false)]) (H' := [])
  · exact Run.cond (d := false) rfl ⟨0, rfl⟩
  obtain ⟨Z, hZ⟩ : ∃ Z, Z = List.replicate 24 (0 : UInt8) := ⟨_, rfl⟩
  have hal : zeroAV X 78 = .agg (.pb Z) := by rw [hZ]; exact al24
  have hZl : Z.length = 24 := by rw [hZ]; simp
  apply Tells.seq (fr' := [(0, .int .u64 (x : Nat)), (5, .ptr 0 0 0 0)]) (H' := [some (fbP Z)])
  · unfold fbP
    (refine ⟨0, ?_⟩; simp (maxSteps := 2000000) -implicitDefEqProofs [-getElem?_pos, List.getElem?_cons_zero, List.getElem?_cons_succ, go_sem, eqV, plen, loadV, storeV, hal, boxOf, newBox, hasIdsP, hZl])
  obtain ⟨hn20, hN⟩ := numD_ev (H := [some (fbP Z)]) (x := x) (by omega) hx
  obtain ⟨B', hS, hF⟩ := fb_ev (H := [some (fbP Z)]) (o := 0) (off := 0) (nd := ndN x) (u := x) (B := Z) rfl (ndN_pos x) (ndN_lt x) hx (by omega) (by omega)
  have hd := hS.2
  have hlen : B'.length = 24 := by rw [hS.1, hZl]
  simp only [Nat.zero_add, Nat.add_zero, Nat.sub_zero, List.drop_zero] at hd
  unfold decB
  rw [← hd]
  have hF' : evT X 59 [.sl 0 0 (ndN x) 0, .int .u64 (x : Nat)] [some (fbP Z)] = some (.tup [], [some (fbP B')]) := hF
  clear hF hS hd hal hZ
  generalize ndN x = nd at *
  apply Tells.seq (fr' := [(0, .int .u64 (x : Nat)), (5, .ptr 0 0 0 0), (6, .int .i64 (nd : Nat))]) (H' := [some (fbP Z)])
  · generalize fbP Z = P at *
    (refine ⟨0, ?_⟩; simp (maxSteps := 2000000) -implicitDefEqProofs [-getElem?_pos, List.getElem?_cons_zero, List.getElem?_cons_succ, go_sem, eqV, plen, loadV, storeV, hN])
  have n24 : (nd : Int) ≤ 24 := by omega
  have n24N : nd ≤ 24 := by omega
  apply Tells.seq (fr' := [(5, .ptr 0 0 0 0), (6, .int .i64 (nd : Nat))]) (H' := [some (fbP B')])
  · unfold fbP at hF' ⊢
    (refine ⟨0, ?_⟩; simp (maxSteps := 2000000) -implicitDefEqProofs [-getElem?_pos, List.getElem?_cons_zero, List.getElem?_cons_succ, go_sem, eqV, plen, loadV, storeV, hF', n24, n24N, sliceV, bound, hZl])
  refine Tells.of (o := ⟨.ret, [(4, .str (B'.take nd))], [some (fbP B')]⟩) ⟨0, ?_⟩ ⟨rfl, rfl⟩
  have nl : nd ≤ B'.length := by omega
  unfold fbP
  simp (maxSteps := 2000000) -implicitDefEqProofs [-getElem?_pos, List.getElem?_cons_zero, List.getElem?_cons_succ, go_sem, eqV, plen, loadV, storeV, n24, n24N, sliceV, bound, hlen, nl, readSl, isU8, psub]

end

theorem fmtU_ev {H : AM.Heap} {x : Nat} (hx : x < 18446744073709551616) : evT X 44 [.int .u64 (x : Nat), .int .i64 10] H = some (.str (decB x), H) := by
  obtain ⟨code, hcode, o, ⟨he, h4⟩, hr⟩ := fmtU_code x hx
  exact evT_eq (Ev1.toldP (l := [.str (decB x)]) (evT_below X) Tryd.func44 hcode (args_flat (i := 0) rfl rfl (args_flat (i := 1) rfl rfl (args_nil 2))) rfl (by simp [gtag]) rfl rfl rfl ⟨o, ⟨he, by show some [getF o.fr 4] = _; rw [h4]⟩, hr⟩)

section
variable (x : Int)

set_option maxRecDepth 100000 in
set_option maxHeartbeats 8000000 in
theorem fmtI_code (h1 : -9223372036854775808 ≤ x) (h2 : x < 9223372036854775808) : ∃ code, Tryd.f43.body = some code ∧
    Tells (Rets fun fr H => getF fr 4 = .str (intB x)) X (evT X) 43 0 code [(0, .int .i64 x), (1, .int .i64 10)] [] := by
  refine ⟨_, rfl, ?_⟩
  apply Tells.seq (fr' := [(0, .int .i64 x), (1, .int .i64 10)]) (H' := [])
  · (refine ⟨0, ?_⟩; simp (maxSteps := 2000000) -implicitDefEqProofs [-getElem?_pos, List.getElem?_cons_zero, List.getElem?_cons_succ, go_sem, eqV, plen, loadV, storeV])
  apply Tells.assoc
  apply Tells.seq (fr' := [(0, .int .i64 x), (1, .int .i64 10), (11, .bool true)]) (H' := [])
  · (refine ⟨0, ?_⟩; simp (maxSteps := 2000000) -implicitDefEqProofs [-getElem?_pos, List.getElem?_cons_zero, List.getElem?_cons_succ, go_sem, eqV, plen, loadV, storeV])
  refine Tells.seqOut (Tells.condT rfl ?_) (fun o h => by rw [h.1]; simp)
  by_cases hs : 0 ≤ x ∧ x < 100
  · obtain ⟨g1, g2⟩ := hs
    obtain ⟨k, rfl⟩ : ∃ k : Nat, x = (k : Int) := ⟨x.toNat, by omega⟩
    have hS := fun H => small_ev (H := H) (k := k) (by omega)
    have hi : intB (k : Int) = decB k := by unfold intB; rw [if_neg (by omega)]; rfl
    rw [hi]
    refine Tells.of (o := ⟨.ret, [(4, .str (decB k))], []⟩) ⟨0, ?_⟩ ⟨rfl, rfl⟩
    have g2N : k < 100 := by omega
    simp (maxSteps := 2000000) -implicitDefEqProofs [-getElem?_pos, List.getElem?_cons_zero, List.getElem?_cons_succ, go_sem, eqV, plen, loadV, storeV, g1, g2, g2N, hS]
  apply Tells.assoc
  apply Tells.seq (fr' := [(0, .int .i64 x), (17, .bool false)]) (H' := [])
  · by_cases g1 : 0 ≤ x
    · have g2 : ¬ x < 100 := by omega
      (refine ⟨0, ?_⟩; simp (maxSteps := 2000000) -implicitDefEqProofs [-getElem?_pos, List.getElem?_cons_zero, List.getElem?_cons_succ, go_sem, eqV, plen, loadV, storeV, g1, g2])
    · (refine ⟨0, ?_⟩; simp (maxSteps := 2000000) -implicitDefEqProofs [-getElem?_pos, List.getElem?_cons_zero, List.getElem?_cons_succ, go_sem, eqV, plen, loadV, storeV, g1])
  apply Tells.seq (fr' := [(0, .int .i64 x), (17, .bool false)]) (H' := [])
  · exact Run.cond (d := false) rfl ⟨0, rfl⟩
  obtain ⟨Z, hZ⟩ : ∃ Z, Z = List.replicate 24 (0 : UInt8) := ⟨_, rfl⟩
  have hal : zeroAV X 78 = .agg (.pb Z) := by rw [hZ]; exact al24
  have hZl : Z.length = 24 := by rw [hZ]; simp
  apply Tells.seq (fr' := [(0, .int .i64 x), (5, .ptr 0 0 0 0)]) (H' := [some (fbP Z)])
  · unfold fbP
    (refine ⟨0, ?_⟩; simp (maxSteps := 2000000) -implicitDefEqProofs [-getElem?_pos, List.getElem?_cons_zero, List.getElem?_cons_succ, go_sem, eqV, plen, loadV, storeV, hal, boxOf, newBox, hasIdsP, hZl])
  obtain ⟨u, hu⟩ : ∃ u : Nat, u = x.natAbs := ⟨_, rfl⟩
  have hi : intB x = if x < 0 then 45 :: decB u else decB u := by
    unfold intB
    by_cases h : x < 0
    · rw [if_pos h, if_pos h, show (-x).toNat = u by omega]
    · rw [if_neg h, if_neg h, show x.toNat = u by omega]
  have hu0 : 0 < u := by omega
  have hu64 : u < 18446744073709551616 := by omega
  apply Tells.seq (fr' := [(0, .int .i64 x), (5, .ptr 0 0 0 0), (6, .int .u64 (IntKind.u64.wrap x))]) (H' := [some (fbP Z)])
  · generalize fbP Z = P at *
    (refine ⟨0, ?_⟩; simp (maxSteps := 2000000) -implicitDefEqProofs [-getElem?_pos, List.getElem?_cons_zero, List.getElem?_cons_succ, go_sem, eqV, plen, loadV, storeV])
  apply Tells.assoc
  apply Tells.seq (fr' := [(0, .int .i64 x), (5, .ptr 0 0 0 0), (6, .int .u64 (IntKind.u64.wrap x)), (23, .bool (decide (x < 0)))]) (H' := [some (fbP Z)])
  · generalize IntKind.u64.wrap x = w at *
    generalize fbP Z = P at *
    (refine ⟨0, ?_⟩; simp (maxSteps := 2000000) -implicitDefEqProofs [-getElem?_pos, List.getElem?_cons_zero, List.getElem?_cons_succ, go_sem, eqV, plen, loadV, storeV])
  apply Tells.seq (fr' := [(0, .int .i64 x), (5, .ptr 0 0 0 0), (6, .int .u64 (u : Nat))] ++ (if x < 0 then [] else [(23, .bool false)])) (H' := [some (fbP Z)])
  · by_cases h : x < 0
    · rw [if_pos h, show decide (x < 0) = true from decide_eq_true h]
      have w1 : IntKind.u64.wrap (0 - IntKind.u64.wrap x) = (u : Int) := by
        unfold IntKind.wrap; simp [IntKind.signed, IntKind.bits]; omega
      have w1' : IntKind.u64.wrap (-IntKind.u64.wrap x) = (u : Int) := by
        unfold IntKind.wrap; simp [IntKind.signed, IntKind.bits]; omega
      refine Run.cond (d := true) rfl ?_
      generalize IntKind.u64.wrap x = w at *
      generalize fbP Z = P at *
      (refine ⟨0, ?_⟩; simp (maxSteps := 2000000) -implicitDefEqProofs [-getElem?_pos, List.getElem?_cons_zero, List.getElem?_cons_succ, go_sem, eqV, plen, loadV, storeV, unV, w1, w1'])
    · rw [if_neg h, show decide (x < 0) = false from decide_eq_false h]
      have w1 : IntKind.u64.wrap x = (u : Int) := by
        unfold IntKind.wrap; simp [IntKind.signed, IntKind.bits]; omega
      rw [w1]
      exact Run.cond (d := false) rfl ⟨0, rfl⟩
  obtain ⟨hn20, hN⟩ := numD_ev (H := [some (fbP Z)]) (x := u) hu0 hu64
  obtain ⟨B', hS, hF⟩ := fb_ev (H := [some (fbP Z)]) (o := 0) (off := 1) (nd := ndN u) (u := u) (B := Z) rfl (ndN_pos u) (ndN_lt u) hu64 (by omega) (by omega)
  have hd := hS.2
  have hlen : B'.length = 24 := by rw [hS.1, hZl]
  simp only [Nat.zero_add, Nat.add_zero, Nat.sub_zero] at hd
  have hF' : evT X 59 [.sl 0 1 (ndN u) 0, .int .u64 (u : Nat)] [some (fbP Z)] = some (.tup [], [some (fbP B')]) := hF
  have hdec : decB u = (B'.drop 1).take (ndN u) := by unfold decB; exact hd.symm
  rw [hdec] at hi
  clear hF hS hd hal hZ hdec
  generalize ndN u = nd at *
  have w2 : IntKind.i64.wrap (1 + (nd : Int)) = ((1 + nd : Nat) : Int) := by rw [wrap_i64 (by omega) (by omega)]; omega
  obtain ⟨n1, hn1⟩ : ∃ n1, n1 = 1 + nd := ⟨_, rfl⟩
  rw [← hn1] at w2
  have m24 : (n1 : Int) ≤ 24 := by omega
  have m24N : n1 ≤ 24 := by omega
  have m1 : (1 : Int) ≤ (n1 : Int) := by omega
  have m1N : 1 ≤ n1 := by omega
  have mn : n1 - 1 = nd := by omega
  have nl : 1 + nd ≤ B'.length := by omega
  have nl2 : n1 ≤ B'.length := by omega
  have nl24 : 1 + nd ≤ 24 := by omega
  apply Tells.seq (fr' := [(0, .int .i64 x), (5, .ptr 0 0 0 0), (6, .int .u64 (u : Nat)), (7, .int .i64 (nd : Nat))]) (H' := [some (fbP Z)])
  · generalize fbP Z = P at *
    by_cases h : x < 0
    · rw [if_pos h]
      (refine ⟨0, ?_⟩; simp (maxSteps := 2000000) -implicitDefEqProofs [-getElem?_pos, List.getElem?_cons_zero, List.getElem?_cons_succ, go_sem, eqV, plen, loadV, storeV, hN])
    · rw [if_neg h]
      (refine ⟨0, ?_⟩; simp (maxSteps := 2000000) -implicitDefEqProofs [-getElem?_pos, List.getElem?_cons_zero, List.getElem?_cons_succ, go_sem, eqV, plen, loadV, storeV, hN])
  apply Tells.seq (fr' := [(0, .int .i64 x), (5, .ptr 0 0 0 0), (7, .int .i64 (nd : Nat))]) (H' := [some (fbP B')])
  · unfold fbP at hF' ⊢
    (refine ⟨0, ?_⟩; simp (maxSteps := 2000000) -implicitDefEqProofs [-getElem?_pos, List.getElem?_cons_zero, List.getElem?_cons_succ, go_sem, eqV, plen, loadV, storeV, hF', w2, m24, m24N, m1, m1N, mn, sliceV, bound, hZl])
  rw [hi]
  apply Tells.assoc
  by_cases h : x < 0
  · rw [if_pos h]
    apply Tells.seq (fr' := [(5, .ptr 0 0 0 0), (7, .int .i64 (nd : Nat)), (34, .bool true)]) (H' := [some (fbP B')])
    · generalize fbP B' = P at *
      (refine ⟨0, ?_⟩; simp (maxSteps := 2000000) -implicitDefEqProofs [-getElem?_pos, List.getElem?_cons_zero, List.getElem?_cons_succ, go_sem, eqV, plen, loadV, storeV, h])
    refine Tells.seqOut (Tells.condT rfl ?_) (fun o h => by rw [h.1]; simp)
    refine Tells.of (o := ⟨.ret, [(4, .str (45 :: (B'.drop 1).take nd))], [some (fbP (B'.set 0 45))]⟩) ⟨0, ?_⟩ ⟨rfl, rfl⟩
    have hset : (B'.set 0 45).take n1 = 45 :: (B'.drop 1).take nd := by
      cases B' with
      | nil => simp at hlen
      | cons y r => rw [hn1, Nat.add_comm]; simp
    have hsl : (B'.set 0 45).length = 24 := by simp [hlen]
    have b0 : 0 < B'.length := by omega
    have nl3 : n1 ≤ (B'.set 0 45).length := by omega
    have u45 : UInt8.ofNat 45 = 45 := rfl
    unfold fbP
    simp (maxSteps := 2000000) -implicitDefEqProofs [-getElem?_pos, List.getElem?_cons_zero, List.getElem?_cons_succ, go_sem, eqV, plen, loadV, storeV, b0, pset, joinTag, w2, m24, m24N, sliceV, bound, hlen, hsl, hset, readSl, isU8, psub]
  · rw [if_neg h]
    apply Tells.seq (fr' := [(5, .ptr 0 0 0 0), (7, .int .i64 (nd : Nat)), (34, .bool false)]) (H' := [some (fbP B')])
    · generalize fbP B' = P at *
      (refine ⟨0, ?_⟩; simp (maxSteps := 2000000) -implicitDefEqProofs [-getElem?_pos, List.getElem?_cons_zero, List.getElem?_cons_succ, go_sem, eqV, plen, loadV, storeV, h])
    apply Tells.seq (fr' := [(5, .ptr 0 0 0 0), (7, .int .i64 (nd : Nat)), (34, .bool false)]) (H' := [some (fbP B')])
    · exact Run.cond (d := false) rfl ⟨0, rfl⟩
    refine Tells.of (o := ⟨.ret, [(4, .str ((B'.drop 1).take nd))], [some (fbP B')]⟩) ⟨0, ?_⟩ ⟨rfl, rfl⟩
    unfold fbP
    simp (maxSteps := 2000000) -implicitDefEqProofs [-getElem?_pos, List.getElem?_cons_zero, List.getElem?_cons_succ, go_sem, eqV, plen, loadV, storeV, w2, m24, m24N, m1, m1N, mn, sliceV, bound, hlen, nl, nl2, nl24, readSl, isU8, psub]

end

theorem fmtI_ev {H : AM.Heap} {x : Int} (h1 : -9223372036854775808 ≤ x) (h2 : x < 9223372036854775808) : evT X 43 [.int .i64 x, .int .i64 10] H = some (.str (intB x), H) := by
  obtain ⟨code, hcode, o, ⟨he, h4⟩, hr⟩ := fmtI_code x h1 h2
  exact evT_eq (Ev1.toldP (l := [.str (intB x)]) (evT_below X) Tryd.func43 hcode (args_flat (i := 0) rfl rfl (args_flat (i := 1) rfl rfl (args_nil 2))) rfl (by simp [gtag]) rfl rfl rfl ⟨o, ⟨he, by show some [getF o.fr 4] = _; rw [h4]⟩, hr⟩)

theorem sfmtU_code (x : Nat) (hx : x < 18446744073709551616) : ∃ code, Tryd.f28.body = some code ∧
    Tells (Rets fun fr H => getF fr 4 = .str (decB x)) X (evT X) 28 0 code [(0, .int .u64 (x : Nat)), (1, .int .i64 10)] [] := by
  refine ⟨_, rfl, ?_⟩
  have hF := fun H => fmtU_ev (H := H) hx
  refine Tells.of (o := ⟨.ret, [(4, .str (decB x))], []⟩) ⟨0, ?_⟩ ⟨rfl, rfl⟩
  simp (maxSteps := 2000000) -implicitDefEqProofs [-getElem?_pos, List.getElem?_cons_zero, List.getElem?_cons_succ, go_sem, eqV, plen, loadV, storeV, hF]
theorem sfmtU_ev {H : AM.Heap} {x : Nat} (hx : x < 18446744073709551616) : evT X 28 [.int .u64 (x : Nat), .int .i64 10] H = some (.str (decB x), H) := by
  obtain ⟨code, hcode, o, ⟨he, h4⟩, hr⟩ := sfmtU_code x hx
  exact evT_eq (Ev1.toldP (l := [.str (decB x)]) (evT_below X) Tryd.func28 hcode (args_flat (i := 0) rfl rfl (args_flat (i := 1) rfl rfl (args_nil 2))) rfl (by simp [gtag]) rfl rfl rfl ⟨o, ⟨he, by show some [getF o.fr 4] = _; rw [h4]⟩, hr⟩)

theorem sfmtI_code (x : Int) (h1 : -9223372036854775808 ≤ x) (h2 : x < 9223372036854775808) : ∃ code, Tryd.f27.body = some code ∧
    Tells (Rets fun fr H => getF fr 4 = .str (intB x)) X (evT X) 27 0 code [(0, .int .i64 x), (1, .int .i64 10)] [] := by
  refine ⟨_, rfl, ?_⟩
  have hF := fun H => fmtI_ev (H := H) h1 h2
  refine Tells.of (o := ⟨.ret, [(4, .str (intB x))], []⟩) ⟨0, ?_⟩ ⟨rfl, rfl⟩
  simp (maxSteps := 2000000) -implicitDefEqProofs [-getElem?_pos, List.getElem?_cons_zero, List.getElem?_cons_succ, go_sem, eqV, plen, loadV, storeV, hF]
theorem sfmtI_ev {H : AM.Heap} {x : Int} (h1 : -9223372036854775808 ≤ x) (h2 : x < 9223372036854775808) : evT X 27 [.int .i64 x, .int .i64 10] H = some (.str (intB x), H) := by
  obtain ⟨code, hcode, o, ⟨he, h4⟩, hr⟩ := sfmtI_code x h1 h2
  exact evT_eq (Ev1.toldP (l := [.str (intB x)]) (evT_below X) Tryd.func27 hcode (args_flat (i := 0) rfl rfl (args_flat (i := 1) rfl rfl (args_nil 2))) rfl (by simp [gtag]) rfl rfl rfl ⟨o, ⟨he, by show some [getF o.fr 4] = _; rw [h4]⟩, hr⟩)

theorem iItoa_code (x : Int) (h1 : -9223372036854775808 ≤ x) (h2 : x < 9223372036854775808) : ∃ code, Tryd.f68.body = some code ∧
    Tells (Rets fun fr H => getF fr 2 = .str (intB x)) X (evT X) 68 0 code [(0, .int .i64 x)] [] := by
  refine ⟨_, rfl, ?_⟩
  have hF := fun H => fmtI_ev (H := H) h1 h2
  refine Tells.of (o := ⟨.ret, [(2, .str (intB x))], []⟩) ⟨0, ?_⟩ ⟨rfl, rfl⟩
  simp (maxSteps := 2000000) -implicitDefEqProofs [-getElem?_pos, List.getElem?_cons_zero, List.getElem?_cons_succ, go_sem, eqV, plen, loadV, storeV, hF]
theorem iItoa_ev {H : AM.Heap} {x : Int} (h1 : -9223372036854775808 ≤ x) (h2 : x < 9223372036854775808) : evT X 68 [.int .i64 x] H = some (.str (intB x), H) := by
  obtain ⟨code, hcode, o, ⟨he, h4⟩, hr⟩ := iItoa_code x h1 h2
  exact evT_eq (Ev1.toldP (l := [.str (intB x)]) (evT_below X) Tryd.func68 hcode (args_flat (i := 0) rfl rfl (args_nil 1)) rfl (by simp [gtag]) rfl rfl rfl ⟨o, ⟨he, by show some [getF o.fr 2] = _; rw [h4]⟩, hr⟩)

theorem itoa_code (x : Int) (h1 : -9223372036854775808 ≤ x) (h2 : x < 9223372036854775808) : ∃ code, Tryd.f61.body = some code ∧
    Tells (Rets fun fr H => getF fr 2 = .str (intB x)) X (evT X) 61 0 code [(0, .int .i64 x)] [] := by
  refine ⟨_, rfl, ?_⟩
  have hF := fun H => iItoa_ev (H := H) h1 h2
  refine Tells.of (o := ⟨.ret, [(2, .str (intB x))], []⟩) ⟨0, ?_⟩ ⟨rfl, rfl⟩
  simp (maxSteps := 2000000) -implicitDefEqProofs [-getElem?_pos, List.getElem?_cons_zero, List.getElem?_cons_succ, go_sem, eqV, plen, loadV, storeV, hF]
theorem itoa_ev {H : AM.Heap} {x : Int} (h1 : -9223372036854775808 ≤ x) (h2 : x < 9223372036854775808) : evT X 61 [.int .i64 x] H = some (.str (intB x), H) := by
  obtain ⟨code, hcode, o, ⟨he, h4⟩, hr⟩ := itoa_code x h1 h2
  exact evT_eq (Ev1.toldP (l := [.str (intB x)]) (evT_below X) Tryd.func61 hcode (args_flat (i := 0) rfl rfl (args_nil 1)) rfl (by simp [gtag]) rfl rfl rfl ⟨o, ⟨he, by show some [getF o.fr 2] = _; rw [h4]⟩, hr⟩)

end Go.Proofs.YtifgkkfchnfcaaaDoor

/- Walks: counted numbers and texts, read. -/
namespace Go.Proofs.YtifgkkfchnfcaaaDoor
open Go.AM
set_option linter.unusedSimpArgs false
set_option linter.unusedVariables false

/-- a counted number's size -/
def szI (x : Nat) : Nat := if x ≤ 250 then 1 else if x < 65536 then 3 else if x < 16777216 then 4 else 9
/-- its first byte, none for a short one; the bytes behind -/
def frm (x : Nat) : Nat × Nat := if x ≤ 250 then (0, 1) else if x < 65536 then (252, 2) else if x < 16777216 then (253, 3) else (254, 8)
/-- how many bytes stand behind a first byte -/
def bsz (h : Nat) : Nat := if h = 254 then 8 else h - 250
theorem bsz_le {h : Nat} (h1 : ¬ (h = 251 ∨ h = 255)) (h2 : ¬ h ≤ 250) (h3 : h < 256) : 1 ≤ bsz h ∧ bsz h ≤ 8 := by
  unfold bsz; split <;> omega
/-- a counted number read: its value, its size, the error -/
def rdI (b : List UInt8) : Nat × Nat × Int :=
  match b with
  | [] => (0, 0, 4)
  | h :: t =>
    if h.toNat = 251 ∨ h.toNat = 255 then (0, 0, 5) else if h.toNat ≤ 250 then (h.toNat, 1, 0)
    else if t.length < bsz h.toNat then (0, 0, 4) else (leV (t.take (bsz h.toNat)), bsz h.toNat + 1, 0)
/-- a counted text read -/
def rdT (b : List UInt8) : List UInt8 × Nat × Int :=
  if (rdI b).2.2 ≠ 0 then ([], 0, (rdI b).2.2) else if b.length - (rdI b).2.1 < (rdI b).1 then ([], 0, 4) else ((b.drop (rdI b).2.1).take (rdI b).1, (rdI b).2.1 + (rdI b).1, 0)

theorem rdI_le {b : List UInt8} (h : (rdI b).2.2 = 0) : (rdI b).2.1 ≤ b.length ∧ 1 ≤ (rdI b).2.1 := by
  unfold rdI at h ⊢
  match b with
  | [] => simp at h
  | y :: t =>
    simp only at h ⊢
    by_cases h1 : y.toNat = 251 ∨ y.toNat = 255
    · rw [if_pos h1] at h; simp at h
    · rw [if_neg h1] at h ⊢
      by_cases h2 : y.toNat ≤ 250
      · rw [if_pos h2]; simp
      · rw [if_neg h2] at h ⊢
        generalize bsz y.toNat = n at *
        by_cases h3 : t.length < n
        · rw [if_pos h3] at h; simp at h
        · rw [if_neg h3]
          simp only [List.length_cons]; omega

theorem rdI_lt (b : List UInt8) : (rdI b).1 < 18446744073709551616 := by
  unfold rdI
  match b with
  | [] => simp
  | y :: t =>
    simp only
    have hy := y.toNat_lt
    by_cases h1 : y.toNat = 251 ∨ y.toNat = 255
    · rw [if_pos h1]; simp
    · rw [if_neg h1]
      by_cases h2 : y.toNat ≤ 250
      · rw [if_pos h2]; simp only; omega
      · rw [if_neg h2]
        have hb := (bsz_le h1 h2 hy).2
        generalize bsz y.toNat = n at *
        by_cases h3 : t.length < n
        · rw [if_pos h3]; simp
        · rw [if_neg h3]
          have h4 := leV_lt (t.take n)
          have h5 : (t.take n).length ≤ 8 := by rw [List.length_take]; omega
          have h6 : 256 ^ (t.take n).length ≤ 256 ^ 8 := Nat.pow_le_pow_right (by omega) h5
          exact Nat.lt_of_lt_of_le h4 h6

theorem rdT_le {b : List UInt8} (h : (rdT b).2.2 = 0) : (rdT b).2.1 ≤ b.length ∧ (rdT b).1.length ≤ b.length := by
  unfold rdT at h ⊢
  split
  · rename_i h1; rw [if_pos h1] at h; exact absurd h h1
  · rename_i h1
    rw [if_neg h1] at h
    simp only [ne_eq, Decidable.not_not] at h1
    have := rdI_le h1
    split
    · rename_i h2; rw [if_pos h2] at h; simp at h
    · simp only [List.length_take, List.length_drop]; omega

section
variable (c : Nat) (b : List UInt8) (x : Nat)

theorem condT {C : Ctx} {T : Cf} {f m : Nat} {fr : AM.Frame} {H : AM.Heap} {o : AM.Out} {c : Operand} {a b : Code} (hc : evalO C fr c = .bool true) (h : Run C T f m a fr H o) : Run C T f m (.cond c a b) fr H o :=
  Run.cond hc (by rw [if_pos rfl]; exact h)

theorem condF {C : Ctx} {T : Cf} {f m : Nat} {fr : AM.Frame} {H : AM.Heap} {o : AM.Out} {c : Operand} {a b : Code} (hc : evalO C fr c = .bool false) (h : Run C T f m b fr H o) : Run C T f m (.cond c a b) fr H o :=
  Run.cond hc (by rw [if_neg (by simp)]; exact h)

theorem int_le {a b : Nat} : ((a : Nat) : Int) ≤ (b : Nat) ↔ a ≤ b := by omega

set_option maxRecDepth 100000 in
theorem form_code : ∃ code, Tryd.f54.body = some code ∧
    Run X (evT X) 54 0 code [(0, .int .u64 (x : Nat))] [] ⟨.ret, [(2, .int .u8 ((frm x).1 : Nat)), (3, .int .i64 ((frm x).2 : Nat))], []⟩ := by
  refine ⟨_, rfl, 0, ?_⟩
  unfold frm
  by_cases h1 : x ≤ 250
  · have h1i : (x : Int) ≤ 250 := by omega
    simp (maxSteps := 2000000) -implicitDefEqProofs [-getElem?_pos, List.getElem?_cons_zero, List.getElem?_cons_succ, go_sem, eqV, plen, loadV, storeV, h1, h1i]
  · have h1i : ¬ (x : Int) ≤ 250 := by omega
    by_cases h2 : x < 65536
    · have h2i : (x : Int) < 65536 := by omega
      simp (maxSteps := 2000000) -implicitDefEqProofs [-getElem?_pos, List.getElem?_cons_zero, List.getElem?_cons_succ, go_sem, eqV, plen, loadV, storeV, h1, h1i, h2, h2i]
    · have h2i : ¬ (x : Int) < 65536 := by omega
      by_cases h3 : x < 16777216
      · have h3i : (x : Int) < 16777216 := by omega
        simp (maxSteps := 2000000) -implicitDefEqProofs [-getElem?_pos, List.getElem?_cons_zero, List.getElem?_cons_succ, go_sem, eqV, plen, loadV, storeV, h1, h1i, h2, h2i, h3, h3i]
      · have h3i : ¬ (x : Int) < 16777216 := by omega
        simp (maxSteps := 2000000) -implicitDefEqProofs [-getElem?_pos, List.getElem?_cons_zero, List.getElem?_cons_succ, go_sem, eqV, plen, loadV, storeV, h1, h1i, h2, h2i, h3, h3i]

set_option maxRecDepth 100000 in
theorem rsize_code : ∃ code, Tryd.f56.body = some code ∧
    Run X (evT X) 56 0 code [(0, .int .u64 (x : Nat))] [] ⟨.ret, [(2, .int .i64 (szI x : Nat))], []⟩ := by
  refine ⟨_, rfl, ?_⟩
  unfold szI
  apply Run.seq
  · (refine ⟨0, ?_⟩; conv => lhs; simp (maxSteps := 2000000) -implicitDefEqProofs [-getElem?_pos, List.getElem?_cons_zero, List.getElem?_cons_succ, go_sem, eqV, plen, loadV, storeV])
  by_cases h1 : x ≤ 250
  · have h1i : (x : Int) ≤ 250 := by omega
    rw [if_pos h1]
    apply Run.seq_out (hne := by simp)
    apply Run.seq
    · (refine ⟨0, ?_⟩; conv => lhs; simp (maxSteps := 2000000) -implicitDefEqProofs [-getElem?_pos, List.getElem?_cons_zero, List.getElem?_cons_succ, go_sem, eqV, plen, loadV, storeV, h1i])
    refine condT (by simp [evalO, getF]) ?_
    refine ⟨0, ?_⟩
    simp (maxSteps := 2000000) -implicitDefEqProofs [-getElem?_pos, List.getElem?_cons_zero, List.getElem?_cons_succ, go_sem, eqV, plen, loadV, storeV]
  have h1i : ¬ (x : Int) ≤ 250 := by omega
  rw [if_neg h1]
  apply Run.seq
  · (refine ⟨0, ?_⟩; conv => lhs; simp (maxSteps := 2000000) -implicitDefEqProofs [-getElem?_pos, List.getElem?_cons_zero, List.getElem?_cons_succ, go_sem, eqV, plen, loadV, storeV, h1i])
  by_cases h2 : x < 65536
  · have h2i : (x : Int) < 65536 := by omega
    rw [if_pos h2]
    apply Run.seq_out (hne := by simp)
    apply Run.seq
    · (refine ⟨0, ?_⟩; conv => lhs; simp (maxSteps := 2000000) -implicitDefEqProofs [-getElem?_pos, List.getElem?_cons_zero, List.getElem?_cons_succ, go_sem, eqV, plen, loadV, storeV, h2i])
    refine condT (by simp [evalO, getF]) ?_
    refine ⟨0, ?_⟩
    simp (maxSteps := 2000000) -implicitDefEqProofs [-getElem?_pos, List.getElem?_cons_zero, List.getElem?_cons_succ, go_sem, eqV, plen, loadV, storeV]
  have h2i : ¬ (x : Int) < 65536 := by omega
  rw [if_neg h2]
  apply Run.seq
  · (refine ⟨0, ?_⟩; conv => lhs; simp (maxSteps := 2000000) -implicitDefEqProofs [-getElem?_pos, List.getElem?_cons_zero, List.getElem?_cons_succ, go_sem, eqV, plen, loadV, storeV, h2i])
  by_cases h3 : x < 16777216
  · have h3i : (x : Int) < 16777216 := by omega
    rw [if_pos h3]
    apply Run.seq_out (hne := by simp)
    apply Run.seq
    · (refine ⟨0, ?_⟩; conv => lhs; simp (maxSteps := 2000000) -implicitDefEqProofs [-getElem?_pos, List.getElem?_cons_zero, List.getElem?_cons_succ, go_sem, eqV, plen, loadV, storeV, h3i])
    refine condT (by simp [evalO, getF]) ?_
    refine ⟨0, ?_⟩
    simp (maxSteps := 2000000) -implicitDefEqProofs [-getElem?_pos, List.getElem?_cons_zero, List.getElem?_cons_succ, go_sem, eqV, plen, loadV, storeV]
  have h3i : ¬ (x : Int) < 16777216 := by omega
  rw [if_neg h3]
  apply Run.seq
  · (refine ⟨0, ?_⟩; conv => lhs; simp (maxSteps := 2000000) -implicitDefEqProofs [-getElem?_pos, List.getElem?_cons_zero, List.getElem?_cons_succ, go_sem, eqV, plen, loadV, storeV, h3i])
  refine ⟨0, ?_⟩
  simp (maxSteps := 2000000) -implicitDefEqProofs [-getElem?_pos, List.getElem?_cons_zero, List.getElem?_cons_succ, go_sem, eqV, plen, loadV, storeV]

end

theorem form_ev (x : Nat) (H : AM.Heap) : evT X 54 [.int .u64 (x : Nat)] H = some (.tup [.int .u8 ((frm x).1 : Nat), .int .i64 ((frm x).2 : Nat)], H) := by
  obtain ⟨code, hcode, hr⟩ := form_code x
  exact evT_eq (Ev1.toldP (l := [.int .u8 ((frm x).1 : Nat), .int .i64 ((frm x).2 : Nat)]) (evT_below X) Tryd.func54 hcode (args_flat (i := 0) rfl rfl (args_nil 1)) rfl (by simp [gtag]) rfl rfl rfl ⟨_, ⟨rfl, rfl⟩, hr⟩)

theorem rsize_ev (x : Nat) (H : AM.Heap) : evT X 56 [.int .u64 (x : Nat)] H = some (.int .i64 (szI x : Nat), H) := by
  obtain ⟨code, hcode, hr⟩ := rsize_code x
  exact evT_eq (Ev1.toldP (l := [.int .i64 (szI x : Nat)]) (evT_below X) Tryd.func56 hcode (args_flat (i := 0) rfl rfl (args_nil 1)) rfl (by simp [gtag]) rfl rfl rfl ⟨_, ⟨rfl, rfl⟩, hr⟩)

section
variable (c : Nat) (b : List UInt8) (x : Nat)

end

end Go.Proofs.YtifgkkfchnfcaaaDoor

/- Walks: counted numbers, read. -/
namespace Go.Proofs.YtifgkkfchnfcaaaDoor
open Go.AM
set_option linter.unusedSimpArgs false
set_option linter.unusedVariables false

theorem rf0_ev {H : AM.Heap} {a : AV} {b : List UInt8} {n : Nat} (h : Byt H a b) (hb : b.length ≤ 90000000) :
    evT X 38 [a, .int .i64 (n : Nat)] H = some (.tup [.int .u64 (rfR b n).1, .int .i64 (rfR b n).2], H) := by
  obtain ⟨c, p, xl, hp, hc, hx'⟩ := args_byt (C := X) (f := 38) (i := 0) rfl h (args_flat (i := 1) (a := .int .i64 (n : Nat)) rfl rfl (args_nil 2))
  obtain ⟨code, hcode, hr⟩ := readFixed_code (evT X) c b n (by omega)
  refine evT_eq (Ev1.toldP (l := [.int .u64 (rfR b n).1, .int .i64 (rfR b n).2]) (evT_below X) Tryd.func38 hcode hx' (by simp [idsL, ids, hp.ids]) (by simp [gtag]) rfl rfl rfl ?_)
  rw [par38, coB hp]
  exact ⟨_, ⟨rfl, rfl⟩, hr⟩

theorem slFrom0 {c t n : Nat} {b : List UInt8} (hc : c = 0 → b = []) (hn : n ≤ b.length) (H : AM.Heap) : sliceV X H 22 (.ro c (.pb b) t) (some (.int .i64 (n : Nat))) none = some (.ro c (.pb (b.drop n)) t) := by
  have hcc : (if c = 0 then 0 else c) = c := by split <;> omega
  have hnl : (n : Int) ≤ (b.length : Int) := by omega
  have hle : n + (b.length - n) ≤ b.length := by omega
  have ht : List.take (b.length - n) (b.drop n) = b.drop n := by rw [List.take_of_length_le (by simp)]
  simp [sliceV, bound, plen, pesz, psub, hnl, hcc, hle, ht]

/-- what is read of a first byte that has n behind it -/
def rdN' (t : List UInt8) (n : Nat) : Nat × Nat × Int := if t.length < n then (0, 0, 4) else (leV (t.take n), n + 1, 0)

theorem rdI_cons (y : UInt8) (t : List UInt8) : rdI (y :: t) = if y.toNat = 251 ∨ y.toNat = 255 then (0, 0, 5) else if y.toNat ≤ 250 then (y.toNat, 1, 0) else rdN' t (bsz y.toNat) := rfl

theorem beq_f {a : Nat} {n : Int} (h : (a : Int) ≠ n) : ((a : Int) == n) = false := by simpa using h

section
variable (c : Nat) (b : List UInt8)

set_option maxRecDepth 100000 in
theorem readInt_code (hc : c = 0 → b = []) (hb : b.length ≤ 90000000) : ∃ code, Tryd.f53.body = some code ∧
    Run X (evT X) 53 0 code [(0, .ro c (.pb b) 1)] [] ⟨.ret, [(2, .int .u64 ((rdI b).1 : Nat)), (3, .int .i64 ((rdI b).2.1 : Nat)), (4, .int .i64 (rdI b).2.2)], []⟩ := by
  refine ⟨_, rfl, ?_⟩
  match b with
  | [] =>
    refine ⟨0, ?_⟩
    simp (maxSteps := 2000000) -implicitDefEqProofs [-getElem?_pos, List.getElem?_cons_zero, List.getElem?_cons_succ, go_sem, eqV, plen, loadV, storeV, rdI]
  | y :: t =>
    rw [rdI_cons]
    have hy : (y :: t)[0]? = some y := rfl
    have hl : 0 < (y :: t).length := by simp
    have hl0 : ¬ (y :: t).length = 0 := by simp
    have hsl := fun H => slFrom0 (t := 1) hc (show 1 ≤ (y :: t).length by simp) H
    have hbt : ∀ n : Nat, evT X 38 [.ro c (.pb t) 1, .int .i64 (n : Nat)] [] = some (.tup [.int .u64 (rfR t n).1, .int .i64 (rfR t n).2], []) := fun n => rf0_ev (Byt.ro (.inl rfl) (fun h => by have := hc h; simp at this)) (by simp at hb; omega)
    simp only [List.drop_succ_cons, List.drop_zero, Int.cast_ofNat_Int] at hsl
    have hyl := y.toNat_lt
    have key : ∀ n : Nat, 1 ≤ n → n ≤ 8 → rfR t n = ((((rdN' t n).1 : Nat) : Int), (rdN' t n).2.2) ∧ ((rdN' t n).2.2 = 0 ∧ (rdN' t n).2.1 = n + 1 ∨ (rdN' t n).2.2 = 4 ∧ (rdN' t n).2.1 = 0 ∧ (rdN' t n).1 = 0) := by
      intro n h1 h8
      unfold rfR rdN'
      rw [if_neg (by omega)]
      by_cases h : t.length < n
      · rw [if_pos (by omega), if_pos h]; exact ⟨rfl, .inr ⟨rfl, rfl, rfl⟩⟩
      · rw [if_neg (by omega), if_neg h, Int.toNat_natCast]; exact ⟨rfl, .inl ⟨rfl, rfl⟩⟩
    have wy : IntKind.u64.wrap (y.toNat : Int) = (y.toNat : Int) := wrap_u64 (by omega) (by omega)
    by_cases h1 : y.toNat = 251
    · rw [if_pos (.inl h1)]
      generalize y :: t = l at *
      refine ⟨0, ?_⟩
      simp (maxSteps := 2000000) -implicitDefEqProofs [-getElem?_pos, List.getElem?_cons_zero, List.getElem?_cons_succ, go_sem, eqV, plen, loadV, storeV, hy, hl, hl0, h1]
    by_cases h2 : y.toNat = 255
    · rw [if_pos (.inr h2)]
      generalize y :: t = l at *
      refine ⟨0, ?_⟩
      simp (maxSteps := 2000000) -implicitDefEqProofs [-getElem?_pos, List.getElem?_cons_zero, List.getElem?_cons_succ, go_sem, eqV, plen, loadV, storeV, hy, hl, hl0, h2]
    rw [if_neg (by omega)]
    by_cases h3 : y.toNat ≤ 250
    · rw [if_pos h3]
      have e1 : (y.toNat : Int) ≠ 251 := by omega
      have e2 : (y.toNat : Int) ≠ 252 := by omega
      have e3 : (y.toNat : Int) ≠ 253 := by omega
      have e4 : (y.toNat : Int) ≠ 254 := by omega
      have e5 : (y.toNat : Int) ≠ 255 := by omega
      have f1 := beq_f e1
      have f2 := beq_f e2
      have f3 := beq_f e3
      have f4 := beq_f e4
      have f5 := beq_f e5
      generalize y :: t = l at *
      refine ⟨0, ?_⟩
      simp (maxSteps := 2000000) -implicitDefEqProofs [-getElem?_pos, List.getElem?_cons_zero, List.getElem?_cons_succ, go_sem, eqV, plen, loadV, storeV, hy, hl, hl0, e1, e2, e3, e4, e5, f1, f2, f3, f4, f5, wy]
    rw [if_neg h3]
    have hcases : y.toNat = 252 ∨ y.toNat = 253 ∨ y.toNat = 254 := by omega
    rcases hcases with h | h | h
    · have hk := key 2 (by omega) (by omega)
      have hB := hbt 2
      have hz : bsz y.toNat = 2 := by rw [h]; rfl
      rw [hz]
      rw [hk.1] at hB
      generalize y :: t = l at *
      rcases hk.2 with ⟨q1, q2⟩ | ⟨q1, q2, q3⟩
      · refine ⟨0, ?_⟩
        rw [q1] at hB
        simp only [Int.cast_ofNat_Int] at hB
        simp (maxSteps := 2000000) -implicitDefEqProofs [-getElem?_pos, List.getElem?_cons_zero, List.getElem?_cons_succ, go_sem, eqV, plen, loadV, storeV, hy, hl, hl0, h, hsl, hB, q1, q2, IntKind.wrap, IntKind.bits, IntKind.signed]
      · refine ⟨0, ?_⟩
        rw [q1] at hB
        simp only [Int.cast_ofNat_Int] at hB
        simp (maxSteps := 2000000) -implicitDefEqProofs [-getElem?_pos, List.getElem?_cons_zero, List.getElem?_cons_succ, go_sem, eqV, plen, loadV, storeV, hy, hl, hl0, h, hsl, hB, q1, q2, q3]
    · have hk := key 3 (by omega) (by omega)
      have hB := hbt 3
      have hz : bsz y.toNat = 3 := by rw [h]; rfl
      rw [hz]
      rw [hk.1] at hB
      generalize y :: t = l at *
      rcases hk.2 with ⟨q1, q2⟩ | ⟨q1, q2, q3⟩
      · refine ⟨0, ?_⟩
        rw [q1] at hB
        simp only [Int.cast_ofNat_Int] at hB
        simp (maxSteps := 2000000) -implicitDefEqProofs [-getElem?_pos, List.getElem?_cons_zero, List.getElem?_cons_succ, go_sem, eqV, plen, loadV, storeV, hy, hl, hl0, h, hsl, hB, q1, q2, IntKind.wrap, IntKind.bits, IntKind.signed]
      · refine ⟨0, ?_⟩
        rw [q1] at hB
        simp only [Int.cast_ofNat_Int] at hB
        simp (maxSteps := 2000000) -implicitDefEqProofs [-getElem?_pos, List.getElem?_cons_zero, List.getElem?_cons_succ, go_sem, eqV, plen, loadV, storeV, hy, hl, hl0, h, hsl, hB, q1, q2, q3]
    · have hk := key 8 (by omega) (by omega)
      have hB := hbt 8
      have hz : bsz y.toNat = 8 := by rw [h]; rfl
      rw [hz]
      rw [hk.1] at hB
      generalize y :: t = l at *
      rcases hk.2 with ⟨q1, q2⟩ | ⟨q1, q2, q3⟩
      · refine ⟨0, ?_⟩
        rw [q1] at hB
        simp only [Int.cast_ofNat_Int] at hB
        simp (maxSteps := 2000000) -implicitDefEqProofs [-getElem?_pos, List.getElem?_cons_zero, List.getElem?_cons_succ, go_sem, eqV, plen, loadV, storeV, hy, hl, hl0, h, hsl, hB, q1, q2, IntKind.wrap, IntKind.bits, IntKind.signed]
      · refine ⟨0, ?_⟩
        rw [q1] at hB
        simp only [Int.cast_ofNat_Int] at hB
        simp (maxSteps := 2000000) -implicitDefEqProofs [-getElem?_pos, List.getElem?_cons_zero, List.getElem?_cons_succ, go_sem, eqV, plen, loadV, storeV, hy, hl, hl0, h, hsl, hB, q1, q2, q3]

end

theorem readInt_ev {H : AM.Heap} {a : AV} {b : List UInt8} (h : Byt H a b) (hb : b.length ≤ 90000000) :
    evT X 53 [a] H = some (.tup [.int .u64 ((rdI b).1 : Nat), .int .i64 ((rdI b).2.1 : Nat), .int .i64 (rdI b).2.2], H) := by
  obtain ⟨c, p, xl, hp, hc, hx'⟩ := args_byt (C := X) (f := 53) (i := 0) rfl h (args_nil 1)
  obtain ⟨code, hcode, hr⟩ := readInt_code c b hc hb
  refine evT_eq (Ev1.toldP (l := [.int .u64 ((rdI b).1 : Nat), .int .i64 ((rdI b).2.1 : Nat), .int .i64 (rdI b).2.2]) (evT_below X) Tryd.func53 hcode hx' (by simp [idsL, ids, hp.ids]) (by simp [gtag]) rfl rfl rfl ?_)
  rw [par53, coB hp]
  exact ⟨_, ⟨rfl, rfl⟩, hr⟩

end Go.Proofs.YtifgkkfchnfcaaaDoor

/- Walks: the column reader of fixed numbers; SameBytes. -/
namespace Go.Proofs.YtifgkkfchnfcaaaDoor
open Go.AM
set_option linter.unusedSimpArgs false
set_option linter.unusedVariables false

def cL : Code → Option Code
  | .seq a _ => some a
  | _ => none
def cR : Code → Option Code
  | .seq _ b => some b
  | _ => none

theorem app_at {H : AM.Heap} {o : Nat} {x : Option AM.Obj} (h : H[o]? = some x) (N : AM.Heap) : (H ++ N)[o]? = some x := by
  have : o < H.length := (List.getElem?_eq_some_iff.1 h).1
  rw [List.getElem?_append_left this]; exact h

/-- what is left, and the error -/
abbrev St := List UInt8 × Int

/-- a fixed number off what is left -/
def fx (n : Nat) (s : St) : Nat × St :=
  if s.2 ≠ 0 then (0, s) else if s.1.length < n then (0, s.1, 4) else (leV (s.1.take n), s.1.drop n, 0)

theorem rf_ev {H : AM.Heap} {a : AV} {b : List UInt8} {n : Nat} (h : Byt H a b) (hb : b.length ≤ 90000000) :
    evT X 38 [a, .int .i64 (n : Nat)] H = some (.tup [.int .u64 (rfR b n).1, .int .i64 (rfR b n).2], H) := by
  obtain ⟨c, p, xl, hp, hc, hx'⟩ := args_byt (C := X) (f := 38) (i := 0) rfl h (args_flat (i := 1) (a := .int .i64 (n : Nat)) rfl rfl (args_nil 2))
  obtain ⟨code, hcode, hr⟩ := readFixed_code (evT X) c b n (by omega)
  refine evT_eq (Ev1.toldP (l := [.int .u64 (rfR b n).1, .int .i64 (rfR b n).2]) (evT_below X) Tryd.func38 hcode hx' (by simp [idsL, ids, hp.ids]) (by simp [gtag]) rfl rfl rfl ?_)
  rw [par38, coB hp]
  exact ⟨_, ⟨rfl, rfl⟩, hr⟩

/-- the reader's box -/
def rdO (c t tg : Nat) (s : St) : AM.Obj := ⟨.pc [.ro c (.pb s.1) t, .int .i64 s.2], 0, some 2, 1, false, true, tg⟩

section
variable (c t tg : Nat) (s : St) (n : Nat)

/-- the reader's box when all is taken -/
def rdN (tg : Nat) (e : Int) : AM.Obj := ⟨.pc [.ro 0 .pn 0, .int .i64 e], 0, some 2, 1, false, true, tg⟩

end

theorem fx_lt {n : Nat} (s : St) : (fx n s).1 < 256 ^ n := by
  unfold fx
  split
  · exact Nat.pow_pos (by omega)
  · split
    · exact Nat.pow_pos (by omega)
    · have := leV_lt (s.1.take n)
      rw [List.length_take, Nat.min_eq_left (by omega)] at this
      exact this

theorem fx_len (n : Nat) (s : St) : (fx n s).2.1.length ≤ s.1.length := by
  unfold fx
  split
  · exact Nat.le_refl _
  · split
    · exact Nat.le_refl _
    · simp

theorem fx_nil {n : Nat} {s : St} {c : Nat} (h : c = 0 → s.1 = []) : c = 0 → (fx n s).2.1 = [] := by
  intro hc
  have := h hc
  unfold fx
  split
  · exact this
  · split
    · exact this
    · simp [this]

set_option maxRecDepth 100000 in
theorem sameB_code (c c2 : Nat) (a b : List UInt8) : ∃ code, Tryd.f12.body = some code ∧
    Run X (evT X) 12 0 code [(0, .ro c (.pb a) 1), (1, .ro c2 (.pb b) 2)] [] ⟨.ret, [(4, .bool (a == b))], []⟩ := by
  refine ⟨_, rfl, 0, ?_⟩
  simp (maxSteps := 2000000) -implicitDefEqProofs [-getElem?_pos, List.getElem?_cons_zero, List.getElem?_cons_succ, go_sem, eqV, plen, loadV, storeV, readSl, strOp]

theorem sameB_ev {H : AM.Heap} {a a2 : AV} {l m : List UInt8} (h : Byt H a l) (h2 : Byt H a2 m) : evT X 12 [a, a2] H = some (.bool (l == m), H) := by
  obtain ⟨c2, p2, x2, hp2, _, hx2⟩ := args_byt (C := X) (f := 12) (i := 1) rfl h2 (args_nil 2)
  obtain ⟨c, p, x, hp, _, hx⟩ := args_byt (C := X) (f := 12) (i := 0) rfl h hx2
  obtain ⟨code, hcode, hr⟩ := sameB_code c c2 l m
  refine evT_eq (Ev1.toldP (l := [.bool (l == m)]) (evT_below X) Tryd.func12 hcode hx (by simp [idsL, ids, hp.ids, hp2.ids]) (by simp [gtag]) rfl rfl rfl ?_)
  rw [par12, coB hp, coB hp2]
  exact ⟨_, ⟨rfl, rfl⟩, hr⟩

end Go.Proofs.YtifgkkfchnfcaaaDoor

/- Walks: the document's fixed number behind bytes. -/
namespace Go.Proofs.YtifgkkfchnfcaaaDoor
open Go.AM
set_option linter.unusedSimpArgs false
set_option linter.unusedVariables false

section
variable (c : Nat) (b : List UInt8) (x n : Nat)

def rafFr (i : Nat) : AM.Frame := [(1, .int .u64 (x : Nat)), (2, .int .i64 (n : Nat)), (8, .sl 1 0 (b.length + i) i), (9, .int .i64 (i : Nat))]

set_option maxRecDepth 100000 in
theorem raf_code (hc : c = 0 → b = []) (hb : b.length ≤ 90000000) (h1 : 1 ≤ n) (h8 : n ≤ 8) (hx : x < 256 ^ n) : ∃ code, Tryd.f40.body = some code ∧
    Tells (Rets fun fr H => ∃ o g ob, getF fr 6 = .sl o 0 (b.length + n) g ∧ getF fr 7 = .int .i64 0 ∧ H[o]? = some (some ob) ∧ Rw (.pb (b ++ leB n x)) g ob) X (evT X) 40 0 code [(0, .ro c (.pb b) 1), (1, .int .u64 (x : Nat)), (2, .int .i64 (n : Nat))] [] := by
  refine ⟨_, rfl, ?_⟩
  have hb0 := fun H => bs0 H
  have hC := app_lit (H := [some nilB]) (m := b) (src := .ro c (.pb b) 1) (srcB (.inl rfl)) (by omega)
  have hw0 : Rw (.pb b) 0 ⟨.pb b, 0, .none, 1, true, false, 0⟩ := ⟨rfl, rfl, rfl, rfl, rfl⟩
  generalize (⟨.pb b, 0, .none, 1, true, false, 0⟩ : AM.Obj) = ob0 at *
  have g1 : ¬ (n : Int) < 1 := by omega
  have g8 : ¬ (8 : Int) < (n : Int) := by omega
  have hz : (n : Int) < 8 → Int.fdiv (x : Int) (2 ^ (min (8 * n) 64)) = 0 := by
    intro h
    rw [shr_u64 (by omega), Nat.div_eq_of_lt hx]; rfl
  have wn : IntKind.u64.wrap (n : Int) = (n : Int) := wrap_u64 (by omega) (by omega)
  have w8 : IntKind.u64.wrap (8 * (n : Int)) = ((8 * n : Nat) : Int) := by rw [wrap_u64 (by omega) (by omega)]; omega
  have hn0 : ¬ (((8 * n : Nat) : Int) < 0) := by omega
  have hmb : IntKind.u64.bits = 64 := rfl
  apply Tells.seq
  · (refine ⟨0, ?_⟩; conv => lhs; simp (maxSteps := 2000000) -implicitDefEqProofs [-getElem?_pos, List.getElem?_cons_zero, List.getElem?_cons_succ, go_sem, eqV, plen, loadV, storeV, assignV, emB])
  apply Tells.seq (fr' := [(0, .ro c (.pb b) 1), (1, .int .u64 (x : Nat)), (2, .int .i64 (n : Nat)), (27, .bool false)]) (H' := [some nilB])
  · by_cases h : (n : Int) < 8
    · have hz := hz h
      generalize 8 * n = n8 at *
      (refine ⟨0, ?_⟩; simp (maxSteps := 2000000) -implicitDefEqProofs [-getElem?_pos, List.getElem?_cons_zero, List.getElem?_cons_succ, go_sem, eqV, plen, loadV, storeV, g1, g8, h, hz, wn, w8, hn0, hmb])
    · (refine ⟨0, ?_⟩; simp (maxSteps := 2000000) -implicitDefEqProofs [-getElem?_pos, List.getElem?_cons_zero, List.getElem?_cons_succ, go_sem, eqV, plen, loadV, storeV, g1, g8, h, hz, wn, w8, hn0, hmb])
  apply Tells.seq (fr' := [(1, .int .u64 (x : Nat)), (2, .int .i64 (n : Nat)), (8, .sl 1 0 b.length 0)]) (H' := [some nilB, some ob0])
  · (refine ⟨0, ?_⟩; simp (maxSteps := 2000000) -implicitDefEqProofs [-getElem?_pos, List.getElem?_cons_zero, List.getElem?_cons_succ, go_sem, eqV, plen, loadV, storeV, hb0, hC, assignV])
  apply Tells.andThen (P := fun fr H => ∃ ob, Rw (.pb (b ++ leB n x)) n ob ∧ fr = rafFr b x n n ++ [(33, .bool false)] ∧ H = [some nilB, some ob])
  · apply Tells.seq (fr' := rafFr b x n 0) (H' := [some nilB, some ob0])
    · (refine ⟨0, ?_⟩; simp (maxSteps := 2000000) -implicitDefEqProofs [-getElem?_pos, List.getElem?_cons_zero, List.getElem?_cons_succ, go_sem, eqV, plen, loadV, storeV, rafFr])
    apply Tells.block
    refine Tells.loop (σ := Nat × AM.Obj) (fun s => s.1 ≤ n ∧ Rw (.pb (b ++ leB s.1 x)) s.1 s.2) (fun s => rafFr b x n s.1) (fun s => [some nilB, some s.2]) (fun s => n - s.1) ?_ (0, ob0) ⟨by simp, by simpa [leB] using hw0⟩
    rintro ⟨i, ob⟩ ⟨hi, hw⟩
    simp only at hi hw ⊢
    by_cases hin : i = n
    · right
      subst hin
      refine ⟨⟨.exit 0, rafFr b x i i ++ [(33, .bool false)], [some nilB, some ob]⟩, ⟨rfl, ob, hw, rfl, rfl⟩, by simp, ?_⟩
      (refine ⟨0, ?_⟩; simp (maxSteps := 2000000) -implicitDefEqProofs [-getElem?_pos, List.getElem?_cons_zero, List.getElem?_cons_succ, go_sem, eqV, plen, loadV, storeV, rafFr])
    · left
      have hlt : i < 8 := by omega
      have hiI : (i : Int) < (n : Int) := by omega
      have w1 : IntKind.i64.wrap ((i : Int) + 1) = ((i + 1 : Nat) : Int) := by rw [wrap_i64 (by omega) (by omega)]; omega
      have wi : IntKind.u64.wrap (i : Int) = (i : Int) := wrap_u64 (by omega) (by omega)
      have w8 : IntKind.u64.wrap (8 * (i : Int)) = ((8 * i : Nat) : Int) := by rw [wrap_u64 (by omega) (by omega)]; omega
      have hn0 : ¬ (((8 * i : Nat) : Int) < 0) := by omega
      have hsh := shr_u64 (x := x) hlt
      have hlen := leB_len i x
      obtain ⟨ob', hw', hA⟩ := app_b (H := [some nilB, some ob]) (o := 1) (src := .ro 1 (.pb [UInt8.ofNat (x / 256 ^ i % 256)]) 0) rfl hw (.inl rfl) (by simp [hlen]; omega)
      rw [List.append_assoc, ← leB_snoc] at hw'
      simp only [List.length_append, hlen, List.length_cons, List.length_nil] at hA
      refine ⟨(i + 1, ob'), ⟨by simp only; omega, hw'⟩, ?_, by simp only; omega⟩
      have hwb := wrap_byte (x / 256 ^ i)
      have hbs := fun H => bs1 H (UInt8.ofNat (x / 256 ^ i % 256))
      generalize x / 256 ^ i = z at *
      generalize UInt8.ofNat (z % 256) = y at *
      generalize 8 * i = i8 at *
      (refine ⟨0, ?_⟩; simp (maxSteps := 2000000) -implicitDefEqProofs [-getElem?_pos, List.getElem?_cons_zero, List.getElem?_cons_succ, go_sem, eqV, plen, loadV, storeV, rafFr, hiI, w1, wi, w8, hn0, hmb, hsh, hwb, hbs, hA, upd])
      omega
  · rintro fr H ⟨ob, hw, rfl, rfl⟩
    refine Tells.of (o := ⟨.ret, [(6, .sl 1 0 (b.length + n) n), (7, .int .i64 0)], [some nilB, some ob]⟩) ?_ ⟨rfl, 1, n, ob, rfl, rfl, rfl, hw⟩
    refine ⟨0, ?_⟩
    simp (maxSteps := 2000000) -implicitDefEqProofs [-getElem?_pos, List.getElem?_cons_zero, List.getElem?_cons_succ, go_sem, eqV, plen, loadV, storeV, rafFr, assignV]

end

theorem raf_ev {H : AM.Heap} {a : AV} {b : List UInt8} {x n : Nat} (h : Byt H a b) (hb : b.length ≤ 90000000) (h1 : 1 ≤ n) (h8 : n ≤ 8) (hx : x < 256 ^ n) :
    ∃ ob, Rw (.pb (b ++ leB n x)) 0 ob ∧ evT X 40 [a, .int .u64 (x : Nat), .int .i64 (n : Nat)] H = some (.tup [.sl H.length 0 (b.length + n) 0, .int .i64 0], H ++ [some ob]) := by
  obtain ⟨c, p, xl, hp, hc, hx'⟩ := args_byt (C := X) (f := 40) (i := 0) rfl h (args_flat (i := 1) (a := .int .u64 (x : Nat)) rfl rfl (args_flat (i := 2) (a := .int .i64 (n : Nat)) rfl rfl (args_nil 3)))
  obtain ⟨code, hcode, hr⟩ := raf_code c b x n hc hb h1 h8 hx
  obtain ⟨ob, q1, q2⟩ := Ev1.newB (H := H) (n := b.length + n) (l := b ++ leB n x) (rest := [.int .i64 0]) (evT_below X) Tryd.func40 hcode hx' (by simp [idsL, ids, hp.ids]) (by simp [gtag]) rfl rfl rfl (by
    obtain ⟨o, ⟨he, o1, g, ob, q1, q2, q3, q4⟩, hrun⟩ := hr
    exact ⟨o, ⟨he, o1, g, ob, by show some [getF o.fr 6, getF o.fr 7] = _; rw [q1, q2], q3, q4⟩, by rw [par40, coB hp]; exact hrun⟩)
  exact ⟨ob, q1, evT_eq q2⟩

end Go.Proofs.YtifgkkfchnfcaaaDoor

/- Walks: counted numbers and texts, appended and read. -/
namespace Go.Proofs.YtifgkkfchnfcaaaDoor
open Go.AM
set_option linter.unusedSimpArgs false
set_option linter.unusedVariables false

/-- a counted number's bytes -/
def aI (x : Nat) : List UInt8 := (if (frm x).1 = 0 then [] else [UInt8.ofNat (frm x).1]) ++ leB (frm x).2 x

theorem frm_ok {x : Nat} (hx : x < 18446744073709551616) : 1 ≤ (frm x).2 ∧ (frm x).2 ≤ 8 ∧ x < 256 ^ (frm x).2 ∧ (frm x).1 < 256 := by
  unfold frm
  split
  · simp only [Nat.reducePow]; omega
  · split
    · simp only [Nat.reducePow]; omega
    · split
      · simp only [Nat.reducePow]; omega
      · simp only [Nat.reducePow]; omega

theorem aI_len (x : Nat) : (aI x).length = szI x := by
  unfold aI szI frm
  split
  · simp [leB_len]
  · split
    · simp [leB_len]
    · split
      · simp [leB_len]
      · simp [leB_len]

theorem szI_le (x : Nat) : 1 ≤ szI x ∧ szI x ≤ 9 := by
  unfold szI; repeat' split
  all_goals omega

section
variable (c : Nat) (b : List UInt8) (x : Nat)

set_option maxRecDepth 100000 in
theorem appendInt_code (hc : c = 0 → b = []) (hb : b.length ≤ 80000000) (hx : x < 18446744073709551616) : ∃ code, Tryd.f39.body = some code ∧
    Tells (Rets fun fr H => ∃ o g ob, getF fr 4 = .sl o 0 (b.length + szI x) g ∧ H[o]? = some (some ob) ∧ Rw (.pb (b ++ aI x)) g ob) X (evT X) 39 0 code [(0, .ro c (.pb b) 1), (1, .int .u64 (x : Nat))] [] := by
  refine ⟨_, rfl, ?_⟩
  obtain ⟨h1, h8, hxn, hf⟩ := frm_ok hx
  have hlen := aI_len x
  rw [← hlen]
  unfold aI
  obtain ⟨ob0, hw0, hC⟩ := clone_ev (H := [some nilB]) (a := .ro c (.pb b) 1) (b := b) (Byt.ro (.inl rfl) hc) (by omega)
  have hF := form_ev x [some nilB]
  generalize frm x = r at *
  obtain ⟨q, n⟩ := r
  simp only at h1 h8 hxn hf hF ⊢
  by_cases h0 : q = 0
  · subst h0
    obtain ⟨ob1, hw1, hA⟩ := af_ev (H := [some nilB, some ob0]) (a := .sl 1 0 b.length 0) (b := b) (x := x) (n := n) (Byt.whole rfl hw0) (by omega) h1 h8 hxn
    refine Tells.of (o := ⟨.ret, [(4, .sl 2 0 (b.length + n) 0)], [some nilB, some ob0, some ob1]⟩) ?_ ⟨rfl, 2, 0, ob1, by simp [getF, leB_len], rfl, by simpa using hw1⟩
    refine ⟨0, ?_⟩
    simp (maxSteps := 2000000) -implicitDefEqProofs [-getElem?_pos, List.getElem?_cons_zero, List.getElem?_cons_succ, go_sem, eqV, plen, loadV, storeV, assignV, emB, hF, hC, hA]
  · have h0b : ((q : Int) != 0) = true := by simpa using h0
    have h0i : ¬ (q : Int) = 0 := by omega
    rw [if_neg h0]
    have hbs := fun H => bs1 H (UInt8.ofNat q)
    have hqn : (UInt8.ofNat q).toNat = q := by simp; omega
    rw [hqn] at hbs
    obtain ⟨ob', hw', hA1⟩ := app_b (H := [some nilB, some ob0]) (o := 1) (src := .ro 1 (.pb [UInt8.ofNat q]) 0) rfl hw0 (.inl rfl) (by simp; omega)
    obtain ⟨ob1, hw1, hA⟩ := af_ev (H := [some nilB, some ob']) (a := .sl 1 0 (b ++ [UInt8.ofNat q]).length 1) (b := b ++ [UInt8.ofNat q]) (x := x) (n := n) (Byt.whole rfl hw') (by simp; omega) h1 h8 hxn
    refine Tells.of (o := ⟨.ret, [(4, .sl 2 0 (b.length + 1 + n) 0)], [some nilB, some ob', some ob1]⟩) ?_ ⟨rfl, 2, 0, ob1, by simp [getF, leB_len]; omega, rfl, by simpa using hw1⟩
    refine ⟨0, ?_⟩
    simp only [List.length_append, List.length_cons, List.length_nil, Nat.zero_add] at hA1 hA
    simp (maxSteps := 2000000) -implicitDefEqProofs [-getElem?_pos, List.getElem?_cons_zero, List.getElem?_cons_succ, go_sem, eqV, plen, loadV, storeV, assignV, emB, hF, hC, h0b, h0i, hbs, hA1, upd, hA]

set_option maxRecDepth 100000 in
theorem rappendInt_code (hc : c = 0 → b = []) (hb : b.length ≤ 80000000) (hx : x < 18446744073709551616) : ∃ code, Tryd.f42.body = some code ∧
    Tells (Rets fun fr H => ∃ o g ob, getF fr 4 = .sl o 0 (b.length + szI x) g ∧ H[o]? = some (some ob) ∧ Rw (.pb (b ++ aI x)) g ob) X (evT X) 42 0 code [(0, .ro c (.pb b) 1), (1, .int .u64 (x : Nat))] [] := by
  refine ⟨_, rfl, ?_⟩
  obtain ⟨h1, h8, hxn, hf⟩ := frm_ok hx
  have hb0 := fun H => bs0 H
  have hC := app_lit (H := [some nilB]) (m := b) (src := .ro c (.pb b) 1) (srcB (.inl rfl)) (by omega)
  have hw0 : Rw (.pb b) 0 ⟨.pb b, 0, .none, 1, true, false, 0⟩ := ⟨rfl, rfl, rfl, rfl, rfl⟩
  generalize (⟨.pb b, 0, .none, 1, true, false, 0⟩ : AM.Obj) = ob0 at *
  have hS := rsize_ev x [some nilB]
  by_cases h1 : x ≤ 250
  · have hs : szI x = 1 := by unfold szI; rw [if_pos h1]
    have hai : aI x = [UInt8.ofNat x] := by unfold aI frm; rw [if_pos h1]; simp only [leB, if_true, List.nil_append]; rw [Nat.mod_eq_of_lt (by omega)]
    rw [hs] at hS ⊢
    rw [hai]
    have hbs := fun H => bs1 H (UInt8.ofNat x)
    have hqn : (UInt8.ofNat x).toNat = x := by simp; omega
    rw [hqn] at hbs
    have w8 : IntKind.u8.wrap (x : Int) = (x : Int) := wrap_u8 (by omega) (by omega)
    obtain ⟨ob', hw', hA1⟩ := app_b (H := [some nilB, some ob0]) (o := 1) (src := .ro 1 (.pb [UInt8.ofNat x]) 0) rfl hw0 (.inl rfl) (by simp; omega)
    refine Tells.of (o := ⟨.ret, [(4, .sl 1 0 (b.length + 1) 1)], [some nilB, some ob']⟩) ?_ ⟨rfl, 1, 1, ob', rfl, rfl, hw'⟩
    refine ⟨0, ?_⟩
    simp only [List.length_append, List.length_cons, List.length_nil, Nat.zero_add] at hA1
    simp (maxSteps := 2000000) -implicitDefEqProofs [-getElem?_pos, List.getElem?_cons_zero, List.getElem?_cons_succ, go_sem, eqV, plen, loadV, storeV, assignV, emB, hS, hb0, hC, w8, hbs, hA1, upd]
  · obtain ⟨n, q, hn, hq, hsz, hfr⟩ : ∃ n q : Nat, szI x = n + 1 ∧ q = (frm x).1 ∧ n = (frm x).2 ∧ (n < 8 ∧ q = 250 + n ∨ n = 8 ∧ q = 254) ∧ 1 < n := by
      unfold szI frm
      rw [if_neg h1, if_neg h1]
      split
      · exact ⟨2, 252, rfl, rfl, rfl, .inl ⟨by omega, rfl⟩, by omega⟩
      · split
        · exact ⟨3, 253, rfl, rfl, rfl, .inl ⟨by omega, rfl⟩, by omega⟩
        · exact ⟨8, 254, rfl, rfl, rfl, .inr ⟨rfl, rfl⟩, by omega⟩
    obtain ⟨hcs, hn1⟩ := hfr
    have hai : aI x = UInt8.ofNat q :: leB n x := by unfold aI; rw [← hq, ← hsz, if_neg (by omega)]; rfl
    rw [hn] at hS ⊢
    rw [hai]
    rw [← hsz] at hxn h8
    have hbs := fun H => bs1 H (UInt8.ofNat q)
    have hqn : (UInt8.ofNat q).toNat = q := by simp; omega
    rw [hqn] at hbs
    have hne : ¬ ((n : Int) + 1 = 1) := by omega
    have hneb : ((n : Int) + 1 == 1) = false := by simpa using hne
    have hne1 : ¬ ((n : Int) = 0) := by omega
    have wn : IntKind.i64.wrap ((n : Int) + 1 - 1) = (n : Int) := by rw [wrap_i64 (by omega) (by omega)]; omega
    have wn2 : IntKind.i64.wrap (n : Int) = (n : Int) := by rw [wrap_i64 (by omega) (by omega)]
    obtain ⟨ob', hw', hA1⟩ := app_b (H := [some nilB, some ob0]) (o := 1) (src := .ro 1 (.pb [UInt8.ofNat q]) 0) rfl hw0 (.inl rfl) (by simp; omega)
    obtain ⟨ob1, hw1, hA⟩ := raf_ev (H := [some nilB, some ob']) (a := .sl 1 0 (b ++ [UInt8.ofNat q]).length 1) (b := b ++ [UInt8.ofNat q]) (x := x) (n := n) (Byt.whole rfl hw') (by simp; omega) (by omega) h8 hxn
    refine Tells.of (o := ⟨.ret, [(4, .sl 2 0 (b.length + 1 + n) 0)], [some nilB, some ob', some ob1]⟩) ?_ ⟨rfl, 2, 0, ob1, by simp [getF]; omega, rfl, by simpa using hw1⟩
    refine ⟨0, ?_⟩
    simp only [List.length_append, List.length_cons, List.length_nil, Nat.zero_add] at hA1 hA
    clear hqn
    generalize UInt8.ofNat q = y at *
    rcases hcs with ⟨c1, c2⟩ | ⟨c1, c2⟩
    · have hlt : (n : Int) + 1 < 9 := by omega
      have w9 : IntKind.i64.wrap (249 + ((n : Int) + 1)) = (q : Int) := by rw [wrap_i64 (by omega) (by omega)]; omega
      have w8 : IntKind.u8.wrap (q : Int) = (q : Int) := wrap_u8 (by omega) (by omega)
      simp (maxSteps := 2000000) -implicitDefEqProofs [-getElem?_pos, List.getElem?_cons_zero, List.getElem?_cons_succ, go_sem, eqV, plen, loadV, storeV, assignV, emB, hS, hb0, hC, hne, hneb, hne1, hlt, w9, w8, wn, wn2, hbs, hA1, upd, hA]
    · subst c1
      subst c2
      simp only [Nat.reduceAdd, Int.cast_ofNat_Int] at *
      simp (maxSteps := 2000000) -implicitDefEqProofs [-getElem?_pos, List.getElem?_cons_zero, List.getElem?_cons_succ, go_sem, eqV, plen, loadV, storeV, assignV, emB, hS, hb0, hC, IntKind.wrap, IntKind.bits, IntKind.signed, hbs, hA1, upd, hA]

end

theorem appendInt_ev {H : AM.Heap} {a : AV} {b : List UInt8} {x : Nat} (h : Byt H a b) (hb : b.length ≤ 80000000) (hx : x < 18446744073709551616) :
    ∃ ob, Rw (.pb (b ++ aI x)) 0 ob ∧ evT X 39 [a, .int .u64 (x : Nat)] H = some (.sl H.length 0 (b.length + szI x) 0, H ++ [some ob]) := by
  obtain ⟨c, p, xl, hp, hc, hx'⟩ := args_byt (C := X) (f := 39) (i := 0) rfl h (args_flat (i := 1) (a := .int .u64 (x : Nat)) rfl rfl (args_nil 2))
  obtain ⟨code, hcode, hr⟩ := appendInt_code c b x hc hb hx
  obtain ⟨ob, q1, q2⟩ := Ev1.newB (H := H) (n := b.length + szI x) (l := b ++ aI x) (rest := []) (evT_below X) Tryd.func39 hcode hx' (by simp [idsL, ids, hp.ids]) (by simp [gtag]) rfl rfl rfl (by
    obtain ⟨o, ⟨he, o1, g, ob, q1, q3, q4⟩, hrun⟩ := hr
    exact ⟨o, ⟨he, o1, g, ob, by show some [getF o.fr 4] = _; rw [q1], q3, q4⟩, by rw [par39, coB hp]; exact hrun⟩)
  exact ⟨ob, q1, evT_eq q2⟩

theorem rappendInt_ev {H : AM.Heap} {a : AV} {b : List UInt8} {x : Nat} (h : Byt H a b) (hb : b.length ≤ 80000000) (hx : x < 18446744073709551616) :
    ∃ ob, Rw (.pb (b ++ aI x)) 0 ob ∧ evT X 42 [a, .int .u64 (x : Nat)] H = some (.sl H.length 0 (b.length + szI x) 0, H ++ [some ob]) := by
  obtain ⟨c, p, xl, hp, hc, hx'⟩ := args_byt (C := X) (f := 42) (i := 0) rfl h (args_flat (i := 1) (a := .int .u64 (x : Nat)) rfl rfl (args_nil 2))
  obtain ⟨code, hcode, hr⟩ := rappendInt_code c b x hc hb hx
  obtain ⟨ob, q1, q2⟩ := Ev1.newB (H := H) (n := b.length + szI x) (l := b ++ aI x) (rest := []) (evT_below X) Tryd.func42 hcode hx' (by simp [idsL, ids, hp.ids]) (by simp [gtag]) rfl rfl rfl (by
    obtain ⟨o, ⟨he, o1, g, ob, q1, q3, q4⟩, hrun⟩ := hr
    exact ⟨o, ⟨he, o1, g, ob, by show some [getF o.fr 4] = _; rw [q1], q3, q4⟩, by rw [par42, coB hp]; exact hrun⟩)
  exact ⟨ob, q1, evT_eq q2⟩

/-- a counted text's bytes -/
def aT (s : List UInt8) : List UInt8 := aI s.length ++ s

section
variable (c : Nat) (b : List UInt8) (s : List UInt8)

set_option maxRecDepth 100000 in
theorem appendText_code (hc : c = 0 → b = []) (hb : b.length ≤ 40000000) (hs : s.length ≤ 40000000) : ∃ code, Tryd.f22.body = some code ∧
    Tells (Rets fun fr H => ∃ o g ob, getF fr 4 = .sl o 0 (b ++ aT s).length g ∧ H[o]? = some (some ob) ∧ Rw (.pb (b ++ aT s)) g ob) X (evT X) 22 0 code [(0, .ro c (.pb b) 1), (1, .str s)] [] := by
  refine ⟨_, rfl, ?_⟩
  have hsz := szI_le s.length
  have hl := aI_len s.length
  obtain ⟨ob1, hw1, hA⟩ := appendInt_ev (H := [some nilB]) (a := .ro c (.pb b) 1) (b := b) (x := s.length) (Byt.ro (.inl rfl) hc) (by omega) (by omega)
  obtain ⟨ob', hw', hA1⟩ := app_b (H := [some nilB, some ob1]) (o := 1) (m := s) (src := .str s) rfl hw1 (.inl rfl) (by simp; omega)
  have w1 : IntKind.u64.wrap (s.length : Int) = (s.length : Int) := wrap_u64 (by omega) (by omega)
  simp only [List.length_append, hl] at hA1
  refine Tells.of (o := ⟨.ret, [(4, .sl 1 0 (b.length + szI s.length + s.length) 1)], [some nilB, some ob']⟩) ?_ ⟨rfl, 1, 1, ob', by simp [getF, aT, hl]; omega, rfl, by rw [aT, ← List.append_assoc]; exact hw'⟩
  refine ⟨0, ?_⟩
  simp (maxSteps := 2000000) -implicitDefEqProofs [-getElem?_pos, List.getElem?_cons_zero, List.getElem?_cons_succ, go_sem, eqV, plen, loadV, storeV, assignV, emB, w1, hA, hA1, upd]

set_option maxRecDepth 100000 in
theorem rappendText_code (hc : c = 0 → b = []) (hb : b.length ≤ 40000000) (hs : s.length ≤ 40000000) : ∃ code, Tryd.f26.body = some code ∧
    Tells (Rets fun fr H => ∃ o g ob, getF fr 4 = .sl o 0 (b ++ aT s).length g ∧ H[o]? = some (some ob) ∧ Rw (.pb (b ++ aT s)) g ob) X (evT X) 26 0 code [(0, .ro c (.pb b) 1), (1, .str s)] [] := by
  refine ⟨_, rfl, ?_⟩
  have hsz := szI_le s.length
  have hl := aI_len s.length
  obtain ⟨ob1, hw1, hA⟩ := rappendInt_ev (H := [some nilB]) (a := .ro c (.pb b) 1) (b := b) (x := s.length) (Byt.ro (.inl rfl) hc) (by omega) (by omega)
  obtain ⟨ob', hw', hA1⟩ := app_b (H := [some nilB, some ob1]) (o := 1) (m := s) (src := .str s) rfl hw1 (.inl rfl) (by simp; omega)
  have w1 : IntKind.u64.wrap (s.length : Int) = (s.length : Int) := wrap_u64 (by omega) (by omega)
  simp only [List.length_append, hl] at hA1
  refine Tells.of (o := ⟨.ret, [(4, .sl 1 0 (b.length + szI s.length + s.length) 1)], [some nilB, some ob']⟩) ?_ ⟨rfl, 1, 1, ob', by simp [getF, aT, hl]; omega, rfl, by rw [aT, ← List.append_assoc]; exact hw'⟩
  refine ⟨0, ?_⟩
  simp (maxSteps := 2000000) -implicitDefEqProofs [-getElem?_pos, List.getElem?_cons_zero, List.getElem?_cons_succ, go_sem, eqV, plen, loadV, storeV, assignV, emB, w1, hA, hA1, upd]

end

theorem appendText_ev {H : AM.Heap} {a : AV} {b s : List UInt8} (h : Byt H a b) (hb : b.length ≤ 40000000) (hs : s.length ≤ 40000000) :
    ∃ ob, Rw (.pb (b ++ aT s)) 0 ob ∧ evT X 22 [a, .str s] H = some (.sl H.length 0 (b ++ aT s).length 0, H ++ [some ob]) := by
  obtain ⟨c, p, xl, hp, hc, hx'⟩ := args_byt (C := X) (f := 22) (i := 0) rfl h (args_flat (i := 1) (a := .str s) rfl rfl (args_nil 2))
  obtain ⟨code, hcode, hr⟩ := appendText_code c b s hc hb hs
  obtain ⟨ob, q1, q2⟩ := Ev1.newB (H := H) (n := (b ++ aT s).length) (l := b ++ aT s) (rest := []) (evT_below X) Tryd.func22 hcode hx' (by simp [idsL, ids, hp.ids]) (by simp [gtag]) rfl rfl rfl (by
    obtain ⟨o, ⟨he, o1, g, ob, q1, q3, q4⟩, hrun⟩ := hr
    exact ⟨o, ⟨he, o1, g, ob, by show some [getF o.fr 4] = _; rw [q1], q3, q4⟩, by rw [par22, coB hp]; exact hrun⟩)
  exact ⟨ob, q1, evT_eq q2⟩

theorem rappendText_ev {H : AM.Heap} {a : AV} {b s : List UInt8} (h : Byt H a b) (hb : b.length ≤ 40000000) (hs : s.length ≤ 40000000) :
    ∃ ob, Rw (.pb (b ++ aT s)) 0 ob ∧ evT X 26 [a, .str s] H = some (.sl H.length 0 (b ++ aT s).length 0, H ++ [some ob]) := by
  obtain ⟨c, p, xl, hp, hc, hx'⟩ := args_byt (C := X) (f := 26) (i := 0) rfl h (args_flat (i := 1) (a := .str s) rfl rfl (args_nil 2))
  obtain ⟨code, hcode, hr⟩ := rappendText_code c b s hc hb hs
  obtain ⟨ob, q1, q2⟩ := Ev1.newB (H := H) (n := (b ++ aT s).length) (l := b ++ aT s) (rest := []) (evT_below X) Tryd.func26 hcode hx' (by simp [idsL, ids, hp.ids]) (by simp [gtag]) rfl rfl rfl (by
    obtain ⟨o, ⟨he, o1, g, ob, q1, q3, q4⟩, hrun⟩ := hr
    exact ⟨o, ⟨he, o1, g, ob, by show some [getF o.fr 4] = _; rw [q1], q3, q4⟩, by rw [par26, coB hp]; exact hrun⟩)
  exact ⟨ob, q1, evT_eq q2⟩

end Go.Proofs.YtifgkkfchnfcaaaDoor
