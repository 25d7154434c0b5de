/- RJ to RK: texts of this claim, one behind the other; what each shows stands at its head. -/
import Derived.Test.YtconnpileacfeaaMg3
/- Walks: the document's bytes joined. -/
namespace Go.Proofs.Ytconnpileacfeaa
open Go.AM
set_option linter.unusedSimpArgs false
set_option linter.unusedVariables false

section
variable (c : Nat) (b : List UInt8) (m : Nat) (e : Int)

def rjFr (O N v i : Nat) : AM.Frame := [(0, .ro c (.pb b) 1), (1, .int .i64 (m : Nat)), (10, .int .i64 e), (11, .sl O 0 N 0), (13, .int .i64 (v : Nat)), (14, .int .i64 (v : Nat)), (15, .int .i64 (i : Nat))]
def rjIn (O N v i r : Nat) (tl : AM.Frame) : AM.Frame := [(0, .ro c (.pb b) 1), (1, .int .i64 (m : Nat)), (10, .int .i64 e), (11, .sl O 0 N 0), (14, .int .i64 (v : Nat)), (15, .int .i64 (i : Nat)), (16, .int .i64 (r : Nat))] ++ tl

set_option maxRecDepth 100000 in
set_option maxHeartbeats 4000000 in
/-- a payload's frames counted -/
theorem rj_in {H : AM.Heap} (O N v0 i r0 T : Nat) (hm : 0 < m) (hm2 : m ≤ 16777215) (hT : v0 + (r0 + 4 * (r0 / m + 1)) = T) (hTb : T ≤ 1000000000) :
    ∃ code, ((Try.f15.body).bind (codeAt [1, 1, 1, 1, 1, 1, 1, 0, 1, 0, 0, 1, 0, 0, 1])) = some code ∧
      Tells (Goes fun fr H' => fr = rjFr c b m e O N T i ∧ H' = H) X (evT X) 15 0 code (rjIn c b m e O N v0 i r0 []) H := by
  refine ⟨_, rfl, ?_⟩
  refine Tells.block (P := fun fr H' => fr = rjFr c b m e O N T i ∧ H' = H) ?_
  refine Tells.loopP (fun k fr H' => ∃ v r tl, k = r ∧ fr = rjIn c b m e O N v i r tl ∧ (tl = [] ∨ tl = [(66, .bool false)]) ∧ H' = H ∧ v + (r + 4 * (r / m + 1)) = T) ?_ (k := r0) ⟨v0, r0, [], rfl, rfl, .inl rfl, rfl, hT⟩
  rintro k fr H' ⟨v, r, tl, rfl, rfl, htl, rfl, hv⟩
  refine Tells.blk ?_ (by
    rintro o (⟨h, _⟩ | ⟨_, h, _⟩)
    · rw [h]; simp
    · rw [h]; simp)
  obtain ⟨n, hn⟩ : ∃ n, n = min m k := ⟨_, rfl⟩
  have hmin : (if (k : Int) < (m : Int) then (k : Int) else (m : Int)) = (n : Int) := by
    split <;> omega
  have hmin2 : (if k < m then (k : Int) else (m : Int)) = (n : Int) := by
    split <;> omega
  obtain ⟨v4, hv4⟩ : ∃ v4, v4 = v + 4 := ⟨_, rfl⟩
  have t1 : IntKind.i64.wrap ((v : Int) + 4) = (v4 : Int) := by rw [wrap_i64 (by omega) (by omega)]; omega
  obtain ⟨v2, hv2⟩ : ∃ v2, v2 = v4 + n := ⟨_, rfl⟩
  have t2 : IntKind.i64.wrap ((v4 : Int) + (n : Int)) = (v2 : Int) := by rw [wrap_i64 (by omega) (by omega)]; omega
  obtain ⟨r2, hr2⟩ : ∃ r2, r2 = k - n := ⟨_, rfl⟩
  have t3 : IntKind.i64.wrap ((k : Int) - (n : Int)) = (r2 : Int) := by rw [wrap_i64 (by omega) (by omega)]; omega
  by_cases hlt : k < m
  · have hnk : n = k := by omega
    have hd : k / m = 0 := Nat.div_eq_of_lt hlt
    have hnm : (n : Int) < (m : Int) := by omega
    have hnm2 : n < m := by omega
    refine Tells.of (o := ⟨.exit 2, rjFr c b m e O N T i, H'⟩) ⟨0, ?_⟩ (.inr ⟨by simp, rfl, rfl, rfl⟩)
    rw [hd] at hv
    have hT2 : T = v2 := by omega
    rw [hT2]

    unfold rjIn rjFr
    rcases htl with rfl | rfl
    · simp (maxSteps := 2000000) -implicitDefEqProofs [-getElem?_pos, List.getElem?_cons_zero, List.getElem?_cons_succ, go_sem, eqV, plen, loadV, storeV, mmin, hmin, hmin2, t1, t2, t3, hnm, hnm2]
    · simp (maxSteps := 2000000) -implicitDefEqProofs [-getElem?_pos, List.getElem?_cons_zero, List.getElem?_cons_succ, go_sem, eqV, plen, loadV, storeV, mmin, hmin, hmin2, t1, t2, t3, hnm, hnm2]
  · have hnm0 : n = m := by omega
    have hd : k / m = (k - m) / m + 1 := by
      rw [Nat.div_eq_sub_div hm (by omega)]
    have hnm : ¬ (n : Int) < (m : Int) := by omega
    have hnm2 : ¬ n < m := by omega
    refine Tells.of (o := ⟨.normal, rjIn c b m e O N v2 i r2 [(66, .bool false)], H'⟩) ⟨0, ?_⟩ (.inl ⟨rfl, r2, by omega, v2, r2, _, rfl, rfl, .inr rfl, rfl, by rw [show r2 = k - m by omega]; omega⟩)

    unfold rjIn
    rcases htl with rfl | rfl
    · simp (maxSteps := 2000000) -implicitDefEqProofs [-getElem?_pos, List.getElem?_cons_zero, List.getElem?_cons_succ, go_sem, eqV, plen, loadV, storeV, mmin, hmin, hmin2, t1, t2, t3, hnm, hnm2]
    · simp (maxSteps := 2000000) -implicitDefEqProofs [-getElem?_pos, List.getElem?_cons_zero, List.getElem?_cons_succ, go_sem, eqV, plen, loadV, storeV, mmin, hmin, hmin2, t1, t2, t3, hnm, hnm2]

set_option maxRecDepth 100000 in
set_option maxHeartbeats 4000000 in
theorem rj_r12 {H : AM.Heap} (O N v i : Nat) (l : List AV) (ob : AM.Obj) (p : Pk) (cb τ : Nat) (ho : H[O]? = some (some ob)) (hw : RwT (.pr 3 l) 0 0 ob) (hN : N = l.length) (hi : l[i]? = some (.pc [.int .u8 (p.sq : Nat), .int .u8 (p.nx : Nat), .ro cb (.pb p.body) τ])) :
    ∃ code, ((Try.f15.body).bind (codeAt [1, 1, 1, 1, 1, 1, 1, 0, 1, 0, 0, 1, 0, 0, 0])) = some code ∧ Run X (evT X) 15 0 code (rjFr c b m e O N v i ++ [(45, .bool true)]) H ⟨.normal, rjIn c b m e O N v i p.body.length [], H⟩ := by
  refine ⟨_, rfl, ?_⟩
  subst hN
  have hlt := at_lt hi
  have hiI : (i : Int) < (l.length : Int) := by omega
  obtain ⟨q, gg, cap, zz, row, ids', tg⟩ := ob
  obtain ⟨q1, q2, q3, q4, q5⟩ := hw
  simp only at q1 q2 q3 q4 q5
  subst q1 q2 q3 q4 q5
  unfold rjFr rjIn
  (refine ⟨0, ?_⟩; simp (maxSteps := 2000000) -implicitDefEqProofs [-getElem?_pos, List.getElem?_cons_zero, List.getElem?_cons_succ, go_sem, eqV, plen, loadV, storeV, ho, hlt, hiI, hi, retag])

set_option maxRecDepth 100000 in
set_option maxHeartbeats 4000000 in
theorem rj_loop {H0 : AM.Heap} (O : Nat) (out : List Pk) (hm : 0 < m) (hm2 : m ≤ 16777215) (hout : PkR 0 H0 O out.length 0 out) (hol : out.length ≤ 3000) (hpb : ∀ p ∈ out, p.body.length ≤ 3000) :
    ∃ code, ((Try.f15.body).bind (codeAt [1, 1, 1, 1, 1, 1, 1, 0, 1])) = some code ∧
      Tells (Goes fun fr H => fr = rjFr c b m e O out.length (nS m out) out.length ++ [(45, .bool false)] ∧ PkR 0 H O out.length 0 out) X (evT X) 15 0 code (rjFr c b m e O out.length 0 0) H0 := by
  refine ⟨_, rfl, ?_⟩
  refine Tells.block (P := fun fr H => fr = rjFr c b m e O out.length (nS m out) out.length ++ [(45, .bool false)] ∧ PkR 0 H O out.length 0 out) ?_
  refine Tells.loopP (fun k fr H => ∃ i, k = out.length - i ∧ i ≤ out.length ∧ fr = rjFr c b m e O out.length (nS m (out.take i)) i ∧ PkR 0 H O out.length 0 out) ?_ (k := out.length) ⟨0, rfl, by omega, rfl, hout⟩
  rintro k fr H ⟨i, rfl, hi, rfl, h⟩
  obtain ⟨l, ob, τ, hτ, hf, hN, ho, hw⟩ := id h
  have hτ0 : τ = 0 := by omega
  subst hτ0
  have hg := hw.g
  by_cases hin : i = out.length
  · rw [List.take_of_length_le (by omega)]
    refine Tells.of (o := ⟨.exit 0, rjFr c b m e O out.length (nS m out) i ++ [(45, .bool false)], H⟩) ⟨0, ?_⟩ (.inr ⟨by simp, rfl, by rw [hin], h⟩)
    have hiI : ¬ ((i : Int) < (out.length : Int)) := by omega
    have hiN : ¬ (i < out.length) := by omega
    unfold rjFr
    generalize out.length = N at *
    simp (maxSteps := 2000000) -implicitDefEqProofs [-getElem?_pos, List.getElem?_cons_zero, List.getElem?_cons_succ, go_sem, eqV, plen, loadV, storeV, ho, hg, hiI, hiN]
  · obtain ⟨p, hpi⟩ : ∃ p, out[i]? = some p := ⟨_, List.getElem?_eq_getElem (by omega)⟩
    obtain ⟨w, hv, cb, τ2, _, hb, _, rfl⟩ := pkL_at hf hpi
    have hll := f2_len hf
    have hiI : (i : Int) < (out.length : Int) := by omega
    have hiN : i < out.length := by omega
    have hnb : nS m (out.take (i + 1)) ≤ 100000000 := by
      have h1 := nS_le (m := m) (B := 3000) (l := out.take (i + 1)) (fun q hq => hpb q (List.mem_of_mem_take hq))
      have h2 : (out.take (i + 1)).length ≤ 3000 := by rw [List.length_take]; omega
      have h3 : (out.take (i + 1)).length * (5 * 3000 + 4) ≤ 3000 * (5 * 3000 + 4) := Nat.mul_le_mul_right _ h2
      omega
    apply Tells.assoc
    apply Tells.seq (fr' := rjFr c b m e O out.length (nS m (out.take i)) i ++ [(45, .bool true)]) (H' := H)
    · unfold rjFr
      generalize out.length = N at *
      generalize nS m (out.take i) = n at *
      (refine ⟨0, ?_⟩; simp (maxSteps := 2000000) -implicitDefEqProofs [-getElem?_pos, List.getElem?_cons_zero, List.getElem?_cons_succ, go_sem, eqV, plen, loadV, storeV, ho, hg, hiI, hiN])
    apply Tells.seq (fr' := rjFr c b m e O out.length (nS m (out.take i)) i ++ [(45, .bool true)]) (H' := H)
    · exact Run.cond (d := true) rfl ⟨0, rfl⟩
    have r12 := rj_r12 c b m e O out.length (nS m (out.take i)) i l ob p cb τ2 ho hw (by omega) hv
    have hin2 := rj_in c b m e (H := H) O out.length (nS m (out.take i)) i p.body.length (nS m (out.take (i + 1))) hm hm2 (by rw [nS_take hpi]; rfl) (by omega)
    have w1 : IntKind.i64.wrap ((i : Int) + 1) = ((i + 1 : Nat) : Int) := by rw [wrap_i64 (by omega) (by omega)]; omega
    apply Tells.andThen (P := fun fr H' => fr = rjFr c b m e O out.length (nS m (out.take (i + 1))) i ∧ H' = H)
    · refine Tells.blk ?_ (fun o h => by rw [h.1]; simp)
      exact Tells.seq (piece r12 _ rfl) (piece hin2 _ rfl)
    rintro fr H' ⟨rfl, rfl⟩
    refine Tells.of (o := ⟨.normal, rjFr c b m e O out.length (nS m (out.take (i + 1))) (i + 1), H'⟩) ⟨0, ?_⟩ (.inl ⟨rfl, out.length - (i + 1), by omega, i + 1, rfl, by omega, rfl, h⟩)
    unfold rjFr
    generalize nS m (out.take (i + 1)) = n2 at *
    generalize out.length = N at *
    simp (maxSteps := 2000000) -implicitDefEqProofs [-getElem?_pos, List.getElem?_cons_zero, List.getElem?_cons_succ, go_sem, eqV, plen, loadV, storeV, w1]

end

section
variable (c : Nat) (b : List UInt8)

set_option maxRecDepth 100000 in
set_option maxHeartbeats 8000000 in
theorem rjoin_code (m lim : Int) (hc : c = 0 → b = []) (hb : b.length ≤ 3000) : ∃ code, Try.f15.body = some code ∧
    Tells (Rets (jnQ (joinR b m lim))) X (evT X) 15 0 code [(0, .ro c (.pb b) 1), (1, .int .i64 m), (2, .int .i64 lim)] [] := by
  refine ⟨_, rfl, ?_⟩
  have hpk0 : ∀ (H : AM.Heap) (O : Nat), H[O]? = some (some nilK) → PkR 0 H O 0 0 [] := fun H O h => ⟨[], nilK, 0, .inl rfl, trivial, rfl, h, ⟨rfl, rfl, rfl, rfl, rfl⟩⟩
  apply Tells.seq (fr' := [(0, .ro c (.pb b) 1), (1, .int .i64 m), (2, .int .i64 lim)]) (H' := [some nilK])
  · (refine ⟨0, ?_⟩; simp (maxSteps := 2000000) -implicitDefEqProofs [-getElem?_pos, List.getElem?_cons_zero, List.getElem?_cons_succ, go_sem, eqV, plen, loadV, storeV, assignV, emK])
  by_cases hbad : newBad m lim = true
  · have hN := rnew_ev' (H := [some nilK]) hbad
    rw [show joinR b m lim = ([], 0, 2) by unfold joinR; rw [if_pos hbad]]
    refine Tells.of (o := ⟨.ret, [(6, .sl 1 0 0 0), (7, .int .i64 0), (8, .int .i64 2)], [some nilK, some nilK]⟩) ⟨0, ?_⟩ ⟨rfl, 1, 0, rfl, rfl, rfl, hpk0 _ _ rfl⟩
    simp (maxSteps := 2000000) -implicitDefEqProofs [-getElem?_pos, List.getElem?_cons_zero, List.getElem?_cons_succ, go_sem, eqV, plen, loadV, storeV, hN, assignV, emK]
  have hgood : newBad m lim = false := by simpa using hbad
  have hbd := hgood
  unfold newBad at hbd
  simp only [Bool.or_eq_false_iff, decide_eq_false_iff_not] at hbd
  obtain ⟨m, rfl⟩ : ∃ n : Nat, m = (n : Nat) := ⟨m.toNat, by omega⟩
  obtain ⟨lim, rfl⟩ : ∃ n : Nat, lim = (n : Nat) := ⟨lim.toNat, by omega⟩
  have hm : 0 < m := by omega
  have hm2 : m ≤ 16777215 := by omega
  have hN := rnew_ev (H := [some nilK]) hgood
  apply Tells.seq (fr' := [(0, .ro c (.pb b) 1), (1, .int .i64 (m : Nat)), (9, .ptr 1 0 0 0), (10, .int .i64 0)]) (H' := [some nilK, some (rdBx { m := m, lim := lim } (.ro 0 .pn 0) (.ro 0 .pn 0) 0)])
  · (refine ⟨0, ?_⟩; simp (maxSteps := 2000000) -implicitDefEqProofs [-getElem?_pos, List.getElem?_cons_zero, List.getElem?_cons_succ, go_sem, eqV, plen, loadV, storeV, hN, assignV])
  apply Tells.assoc
  apply Tells.seq (fr' := [(0, .ro c (.pb b) 1), (1, .int .i64 (m : Nat)), (9, .ptr 1 0 0 0), (10, .int .i64 0), (25, .bool false)]) (H' := [some nilK, some (rdBx { m := m, lim := lim } (.ro 0 .pn 0) (.ro 0 .pn 0) 0)])
  · (refine ⟨0, ?_⟩; simp (maxSteps := 2000000) -implicitDefEqProofs [-getElem?_pos, List.getElem?_cons_zero, List.getElem?_cons_succ, go_sem, eqV, plen, loadV, storeV])
  apply Tells.seq (fr' := [(0, .ro c (.pb b) 1), (1, .int .i64 (m : Nat)), (9, .ptr 1 0 0 0), (10, .int .i64 0), (25, .bool false)]) (H' := [some nilK, some (rdBx { m := m, lim := lim } (.ro 0 .pn 0) (.ro 0 .pn 0) 0)])
  · exact Run.cond (d := false) rfl ⟨0, rfl⟩
  have hS : joinS b (m : Nat) (lim : Nat) = { m := m, lim := lim, nx := hdN b } := rfl
  have hnx : hdN b < 256 := by
    unfold hdN
    split
    · exact UInt8.toNat_lt _
    · omega
  obtain ⟨tl, htl, hrun⟩ : ∃ tl, (tl = [] ∨ tl = [(29, .bool false)]) ∧ ∀ cd4 cd5, ((Try.f15.body).bind (codeAt [1, 1, 1, 0, 0])) = some cd4 → ((Try.f15.body).bind (codeAt [1, 1, 1, 0, 1, 0])) = some cd5 → Run X (evT X) 15 0 (.seq cd4 (.cond (.tmp 29) cd5 .skip)) [(0, .ro c (.pb b) 1), (1, .int .i64 (m : Nat)), (9, .ptr 1 0 0 0), (10, .int .i64 0), (25, .bool false)] [some nilK, some (rdBx { m := m, lim := lim } (.ro 0 .pn 0) (.ro 0 .pn 0) 0)] ⟨.normal, [(0, .ro c (.pb b) 1), (1, .int .i64 (m : Nat)), (9, .ptr 1 0 0 0)] ++ tl, [some nilK, some (rdBx (joinS b (m : Nat) (lim : Nat)) (.ro 0 .pn 0) (.ro 0 .pn 0) 0)]⟩ := by
    rw [hS]
    unfold hdN
    by_cases h4 : 4 ≤ b.length
    · rw [if_pos h4]
      obtain ⟨y, hy⟩ : ∃ y, b[3]? = some y := ⟨_, List.getElem?_eq_getElem (by omega)⟩
      rw [show b.getD 3 0 = y by rw [List.getD, hy]; rfl]
      refine ⟨[], .inl rfl, fun cd4 cd5 e4 e5 => ?_⟩
      obtain rfl := Option.some.inj e4
      obtain rfl := Option.some.inj e5
      have h4I : (4 : Int) ≤ (b.length : Int) := by omega
      have h3I : (3 : Int) < (b.length : Int) := by omega
      have h3 : 3 < b.length := by omega
      refine ⟨0, ?_⟩
      simp (maxSteps := 2000000) -implicitDefEqProofs [-getElem?_pos, List.getElem?_cons_zero, List.getElem?_cons_succ, go_sem, eqV, plen, loadV, storeV, h4, h4I, h3, h3I, hy, rdBx, Rd.pay]
    · rw [if_neg h4]
      refine ⟨[(29, .bool false)], .inr rfl, fun cd4 cd5 e4 e5 => ?_⟩
      obtain rfl := Option.some.inj e4
      obtain rfl := Option.some.inj e5
      have h4I : ¬ (4 : Int) ≤ (b.length : Int) := by omega
      refine ⟨0, ?_⟩
      simp (maxSteps := 2000000) -implicitDefEqProofs [-getElem?_pos, List.getElem?_cons_zero, List.getElem?_cons_succ, go_sem, eqV, plen, loadV, storeV, h4, h4I, rdBx, Rd.pay]
  apply Tells.seq (hrun _ _ rfl rfl)
  obtain ⟨O, H', hF, hpk, hO, hl, _⟩ := rfeed_ev (H := [some nilK, some (rdBx (joinS b (m : Nat) (lim : Nat)) (.ro 0 .pn 0) (.ro 0 .pn 0) 0)]) (o := 1) (c := c) (t := 1) (b := b) (s := joinS b (m : Nat) (lim : Nat)) ⟨rfl, rfl, rfl⟩ hm hnx hc (by omega) rfl
  obtain ⟨hb1, hb2⟩ := fdL_bound (b.length + 1) { joinS b (m : Nat) (lim : Nat) with rest := b } [] 3000 (by simp [joinS]; omega) (by simp)
  have hR : joinR b (m : Nat) (lim : Nat) = ((fdL (b.length + 1) { joinS b m lim with rest := b } []).2.1, nS m (fdL (b.length + 1) { joinS b m lim with rest := b } []).2.1,
      if (fdL (b.length + 1) { joinS b m lim with rest := b } []).2.2 = 0 ∧ nS m (fdL (b.length + 1) { joinS b m lim with rest := b } []).2.1 < b.length then 4 else (fdL (b.length + 1) { joinS b m lim with rest := b } []).2.2) := by
    unfold joinR
    rw [if_neg hbad]
    rfl
  rw [hR]
  generalize fdL (b.length + 1) { joinS b (m : Nat) (lim : Nat) with rest := b } [] = x at *
  obtain ⟨x1, out, e⟩ := x
  simp only at hF hpk hb1 hb2 ⊢
  apply Tells.seq (fr' := [(0, .ro c (.pb b) 1), (1, .int .i64 (m : Nat)), (10, .int .i64 e), (11, .sl O 0 out.length 0)]) (H' := H')
  · generalize [some nilK, some (rdBx (joinS b (m : Nat) (lim : Nat)) (.ro 0 .pn 0) (.ro 0 .pn 0) 0)] = H0 at *
    generalize out.length = N at *
    rcases htl with rfl | rfl
    · (refine ⟨0, ?_⟩; simp (maxSteps := 2000000) -implicitDefEqProofs [-getElem?_pos, List.getElem?_cons_zero, List.getElem?_cons_succ, go_sem, eqV, plen, loadV, storeV, hF, assignV])
    · (refine ⟨0, ?_⟩; simp (maxSteps := 2000000) -implicitDefEqProofs [-getElem?_pos, List.getElem?_cons_zero, List.getElem?_cons_succ, go_sem, eqV, plen, loadV, storeV, hF, assignV])
  obtain ⟨l0, ob0, τ0, hτ0, hf0, hN0, ho0, hw0⟩ := id hpk
  have hg0 := hw0.g
  apply Tells.seq (fr' := [(0, .ro c (.pb b) 1), (1, .int .i64 (m : Nat)), (10, .int .i64 e), (11, .sl O 0 out.length 0), (13, .int .i64 0)]) (H' := H')
  · generalize out.length = N at *
    (refine ⟨0, ?_⟩; simp (maxSteps := 2000000) -implicitDefEqProofs [-getElem?_pos, List.getElem?_cons_zero, List.getElem?_cons_succ, go_sem, eqV, plen, loadV, storeV, assignV])
  apply Tells.seq (fr' := [(0, .ro c (.pb b) 1), (1, .int .i64 (m : Nat)), (10, .int .i64 e), (11, .sl O 0 out.length 0), (13, .int .i64 0), (14, .int .i64 0)]) (H' := H')
  · generalize out.length = N at *
    (refine ⟨0, ?_⟩; simp (maxSteps := 2000000) -implicitDefEqProofs [-getElem?_pos, List.getElem?_cons_zero, List.getElem?_cons_succ, go_sem, eqV, plen, loadV, storeV, assignV])
  apply Tells.assoc
  apply Tells.seq (fr' := rjFr c b m e O out.length 0 0) (H' := H')
  · unfold rjFr
    generalize out.length = N at *
    (refine ⟨0, ?_⟩; simp (maxSteps := 2000000) -implicitDefEqProofs [-getElem?_pos, List.getElem?_cons_zero, List.getElem?_cons_succ, go_sem, eqV, plen, loadV, storeV, assignV])
  apply Tells.andThen (piece (rj_loop c b m e O out hm hm2 hpk hb1 hb2) _ rfl)
  rintro fr H ⟨rfl, hpk2⟩
  refine Tells.of (o := ⟨.ret, [(6, .sl O 0 out.length 0), (7, .int .i64 (nS m out : Nat)), (8, .int .i64 (if e = 0 ∧ nS m out < b.length then 4 else e))], H⟩) ⟨0, ?_⟩ ⟨rfl, O, 0, rfl, rfl, rfl, hpk2⟩
  unfold rjFr
  clear hF
  generalize nS m out = n at *
  generalize out.length = N at *
  by_cases he : e = 0
  · have he1 : (e == 0) = true := by simp [he]
    by_cases hn : n < b.length
    · rw [if_pos ⟨he, hn⟩]
      have hnI : (n : Int) < (b.length : Int) := by omega
      simp (maxSteps := 2000000) -implicitDefEqProofs [-getElem?_pos, List.getElem?_cons_zero, List.getElem?_cons_succ, go_sem, eqV, plen, loadV, storeV, he1, hn, hnI, assignV]
    · rw [if_neg (fun h => hn h.2)]
      have hnI : ¬ (n : Int) < (b.length : Int) := by omega
      simp (maxSteps := 2000000) -implicitDefEqProofs [-getElem?_pos, List.getElem?_cons_zero, List.getElem?_cons_succ, go_sem, eqV, plen, loadV, storeV, he1, hn, hnI, assignV]
  · have he1 : (e == 0) = false := by simp [he]
    rw [if_neg (fun h => he h.1)]
    simp (maxSteps := 2000000) -implicitDefEqProofs [-getElem?_pos, List.getElem?_cons_zero, List.getElem?_cons_succ, go_sem, eqV, plen, loadV, storeV, he1, assignV]

end

theorem rjoin_ev {H : AM.Heap} {a : AV} {b : List UInt8} (m lim : Int) (h : Byt H a b) (hb : b.length ≤ 3000) :
    ∃ H', evT X 15 [a, .int .i64 m, .int .i64 lim] H = some (.tup [.sl H.length 0 (joinR b m lim).1.length 0, .int .i64 ((joinR b m lim).2.1 : Nat), .int .i64 (joinR b m lim).2.2], H') ∧ PkR 0 H' H.length (joinR b m lim).1.length 0 (joinR b m lim).1 ∧ ∃ ob, H' = H ++ [some ob] := by
  obtain ⟨c, p, xl, hp, hc, hx'⟩ := args_byt (C := X) (f := 15) (i := 0) rfl h (args_flat (i := 1) (a := .int .i64 m) rfl rfl (args_flat (i := 2) (a := .int .i64 lim) rfl rfl (args_nil 3)))
  obtain ⟨code, hcode, hr⟩ := rjoin_code c b m lim hc hb
  exact jn_told Try.func15 hcode hx' (by simp [idsL, ids, hp.ids]) (by simp [gtag]) (fun _ _ => rfl) (by rw [par15, coB hp]; exact hr)

end Go.Proofs.Ytconnpileacfeaa

/- Walks: the document's payload, cut into frames. -/
namespace Go.Proofs.Ytconnpileacfeaa
open Go.AM
set_option linter.unusedSimpArgs false
set_option linter.unusedVariables false

theorem bs4n (H : AM.Heap) (a b c d : Nat) (ha : a < 256) (hb : b < 256) (hc : c < 256) (hd : d < 256) : buildSliceV X H 22 4 [(0, .int .u8 (a : Nat)), (1, .int .u8 (b : Nat)), (2, .int .u8 (c : Nat)), (3, .int .u8 (d : Nat))] = some (.ro 1 (.pb [UInt8.ofNat a, UInt8.ofNat b, UInt8.ofNat c, UInt8.ofNat d]) 0, H) := by
  have h1 : (a : Int) < 256 := by omega
  have h2 : (b : Int) < 256 := by omega
  have h3 : (c : Int) < 256 := by omega
  have h4 : (d : Int) < 256 := by omega
  simp [buildSliceV, setParts, litRow, mkRow, asBytes, cellsAV, cellsOf, scalars, scalar, idsL, ids, tagsL, tags, joinTags, h1, h2, h3, h4]

theorem wrapB (n : Nat) : IntKind.u8.wrap (n : Int) = ((n % 256 : Nat) : Int) := by
  unfold IntKind.wrap
  simp [IntKind.signed, IntKind.bits]
theorem shrN (n k : Nat) (hk : k ≤ 64) : Int.fdiv (n : Int) (2 ^ (min k 64)) = ((n / 2 ^ k : Nat) : Int) := by
  rw [Nat.min_eq_left hk]
  rw [show ((2 : Int) ^ k) = ((2 ^ k : Nat) : Int) by simp]
  rw [Int.fdiv_eq_ediv_of_nonneg _ (Int.natCast_nonneg _)]
  exact (Int.natCast_ediv _ _).symm
theorem hdB_4 (n s : Nat) : hdB n s = [UInt8.ofNat (n % 256), UInt8.ofNat (n / 2 ^ 8 % 256), UInt8.ofNat (n / 2 ^ 16 % 256), UInt8.ofNat s] := by
  unfold hdB leB leB leB leB
  simp only [List.cons_append, List.nil_append, Nat.reducePow]
  rw [show n / 256 / 256 = n / 65536 by rw [Nat.div_div_eq_div_mul]]

section
variable (c : Nat) (B : List UInt8) (m : Nat)

def rpFr (s o g at' : Nat) (out : List UInt8) : AM.Frame := [(0, .ro c (.pb B) 1), (1, .int .u8 (s : Nat)), (2, .int .i64 (m : Nat)), (9, .sl o 0 out.length g), (10, .int .i64 (at' : Nat))]
def rpFn (s o g N at' n : Nat) : AM.Frame := [(0, .ro c (.pb B) 1), (1, .int .u8 (s : Nat)), (2, .int .i64 (m : Nat)), (9, .sl o 0 N g), (10, .int .i64 (at' : Nat)), (11, .int .i64 (n : Nat))]

set_option maxRecDepth 100000 in
set_option maxHeartbeats 4000000 in
theorem rp_loop (s0 o0 : Nat) (ob0 : AM.Obj) (H0 : AM.Heap) (hm : m ≤ 16777215) (hm1 : 1 ≤ m) (hs0 : s0 < 256) (hc : c = 0 → B = []) (hb0 : B.length ≤ 1000000) (ho0 : H0[o0]? = some (some ob0)) (hw0 : Rw (.pb []) 0 ob0) :
    ∃ code, ((Try.f11.body).bind (codeAt [1, 1, 1, 1, 1])) = some code ∧
      Tells (Rets (spQ ((spS m (B.length + 1) [] B s0).1, (spS m (B.length + 1) [] B s0).2, 0))) X (evT X) 11 0 code (rpFr c B m s0 o0 0 0 []) H0 := by
  refine ⟨_, rfl, ?_⟩
  refine Tells.blk ?_ (fun o h => by rw [h.1]; simp)
  refine Tells.loopP (fun k fr H => ∃ s o g at' out ob f tl, k = B.length - at' ∧ at' ≤ B.length ∧ fr = rpFr c B m s o g at' out ++ tl ∧ (tl = [] ∨ tl = [(54, .bool false)]) ∧ s < 256 ∧ B.length - at' < f ∧ out.length + 5 * (B.length - at') ≤ 5 * B.length ∧ H[o]? = some (some ob) ∧ Rw (.pb out) g ob ∧ spS m (B.length + 1) [] B s0 = spS m f out (B.drop at') s) ?_ (k := B.length) ⟨s0, o0, 0, 0, [], ob0, B.length + 1, [], by simp, by omega, rfl, .inl rfl, hs0, by omega, by simp, ho0, hw0, by simp⟩
  rintro k fr H ⟨s, o, g, at', out, ob, f, tl, rfl, hat, rfl, htl, hs, hf, hlen, ho, hw, hX⟩
  rw [hX]
  obtain ⟨f, rfl⟩ : ∃ f', f = f' + 1 := ⟨f - 1, by omega⟩
  obtain ⟨n, hn⟩ : ∃ n, n = min (B.length - at') m := ⟨_, rfl⟩
  have hnb : at' + n ≤ B.length := by omega
  have hnm : n ≤ m := by omega
  have h4 := hdB_4 n s
  have hbs := fun H => bs4n H (n % 256) (n / 2 ^ 8 % 256) (n / 2 ^ 16 % 256) s (Nat.mod_lt _ (by omega)) (Nat.mod_lt _ (by omega)) (Nat.mod_lt _ (by omega)) hs
  rw [← h4] at hbs
  obtain ⟨ob1, hw1, hA1⟩ := app_b (H := H) (o := o) (m := hdB n s) (src := .ro 1 (.pb (hdB n s)) 0) ho hw (.inl rfl) (by rw [hdB_len]; omega)
  have ho1 : (upd H o (some ob1))[o]? = some (some ob1) := at_set ho
  obtain ⟨ob2, hw2, hA2⟩ := app_b (H := upd H o (some ob1)) (o := o) (m := (B.drop at').take n) (src := .ro (if c = 0 then 0 else 2) (.pb ((B.drop at').take n)) 1) ho1 hw1 (.inl (by simp [srcV, payB, ptag])) (by rw [List.length_append, hdB_len, List.length_take, List.length_drop]; omega)
  have hup : upd (upd H o (some ob1)) o (some ob2) = upd H o (some ob2) := by unfold upd; simp
  rw [hup] at hA2
  have hcat : out ++ hdB n s ++ (B.drop at').take n = out ++ (hdB n s ++ (B.drop at').take n) := by simp
  rw [hcat] at hw2
  have hk2 : (upd H o (some ob2))[o]? = some (some ob2) := at_set ho
  have hl1 : (out ++ hdB n s).length = out.length + 4 := by rw [List.length_append, hdB_len]
  have hln : ((B.drop at').take n).length = n := by rw [List.length_take, List.length_drop]; omega
  have hol : (out ++ (hdB n s ++ (B.drop at').take n)).length = out.length + 4 + n := by
    rw [List.length_append, List.length_append, hdB_len, hln]; omega
  rw [hl1, hln] at hA2
  rw [hdB_len] at hA1
  have hsub : IntKind.i64.wrap ((B.length : Int) - (at' : Int)) = ((B.length - at' : Nat) : Int) := by rw [wrap_i64 (by omega) (by omega)]; omega
  have hadd : IntKind.i64.wrap ((at' : Int) + (n : Int)) = ((at' + n : Nat) : Int) := by rw [wrap_i64 (by omega) (by omega)]; omega
  have hmin : (if B.length - at' < m then ((B.length - at' : Nat) : Int) else (m : Int)) = (n : Int) := by
    split <;> omega
  have hB0 := wrapB n
  have hB1 := wrapB (n / 2 ^ 8)
  have hB2 := wrapB (n / 2 ^ 16)
  have hS1 : Int.fdiv (n : Int) 256 = ((n / 2 ^ 8 : Nat) : Int) := shrN n 8 (by omega)
  have hS2 : Int.fdiv (n : Int) 65536 = ((n / 2 ^ 16 : Nat) : Int) := shrN n 16 (by omega)
  have hsl := fun H => slMid (c := c) (t := 1) (i := at') (n := n) hc hnb H
  have w8 := wrap8 hs
  refine Tells.blk ?_ (by
    rintro o (⟨h, _⟩ | ⟨_, h, _⟩)
    · rw [h]; simp
    · rw [h]; simp)
  apply Tells.seq (fr' := rpFn c B m s o g out.length at' n) (H' := H)
  · unfold rpFr rpFn
    generalize out.length = N at *
    generalize B.length - at' = la at *
    rcases htl with rfl | rfl
    · (refine ⟨0, ?_⟩; simp (maxSteps := 2000000) -implicitDefEqProofs [-getElem?_pos, List.getElem?_cons_zero, List.getElem?_cons_succ, go_sem, eqV, plen, loadV, storeV, hsub, mmin, hmin])
    · (refine ⟨0, ?_⟩; simp (maxSteps := 2000000) -implicitDefEqProofs [-getElem?_pos, List.getElem?_cons_zero, List.getElem?_cons_succ, go_sem, eqV, plen, loadV, storeV, hsub, mmin, hmin])
  have hlt := at_lt ho
  generalize n / 2 ^ 8 = n8 at *
  generalize n / 2 ^ 16 = n16 at *
  apply Tells.seq (fr' := rpFn c B m s o (g + 1) (out.length + 4) at' n) (H' := upd H o (some ob1))
  · unfold rpFn
    generalize out.length = N at *
    generalize hdB n s = hd at *
    generalize n % 256 = x0 at *
    generalize n8 % 256 = x1 at *
    generalize n16 % 256 = x2 at *
    (refine ⟨0, ?_⟩; simp (maxSteps := 2000000) -implicitDefEqProofs [-getElem?_pos, List.getElem?_cons_zero, List.getElem?_cons_succ, go_sem, eqV, plen, loadV, storeV, hB0, hB1, hB2, hS1, hS2, hbs, hA1, assignV, show IntKind.i64.bits = 64 from rfl])
  generalize hpc : (B.drop at').take n = piece' at *
  generalize hat2 : at' + n = at2 at *
  apply Tells.seq (fr' := rpFn c B m s o (g + 2) (out ++ (hdB n s ++ piece')).length at' n) (H' := upd H o (some ob2))
  · unfold rpFn
    rw [hol]
    generalize out.length = N at *
    generalize upd H o (some ob1) = HV at *
    (refine ⟨0, ?_⟩; simp (maxSteps := 2000000) -implicitDefEqProofs [-getElem?_pos, List.getElem?_cons_zero, List.getElem?_cons_succ, go_sem, eqV, plen, loadV, storeV, hadd, hsl, hA2, assignV])
  generalize hHU : upd H o (some ob2) = HU at *
  apply Tells.seq (fr' := rpFn c B m s o (g + 2) (out ++ (hdB n s ++ piece')).length at2 n) (H' := HU)
  · unfold rpFn
    generalize (out ++ (hdB n s ++ piece')).length = N2 at *
    (refine ⟨0, ?_⟩; simp (maxSteps := 2000000) -implicitDefEqProofs [-getElem?_pos, List.getElem?_cons_zero, List.getElem?_cons_succ, go_sem, eqV, plen, loadV, storeV, hadd])
  apply Tells.seq (fr' := rpFn c B m ((s + 1) % 256) o (g + 2) (out ++ (hdB n s ++ piece')).length at2 n) (H' := HU)
  · unfold rpFn
    generalize (out ++ (hdB n s ++ piece')).length = N2 at *
    (refine ⟨0, ?_⟩; simp (maxSteps := 2000000) -implicitDefEqProofs [-getElem?_pos, List.getElem?_cons_zero, List.getElem?_cons_succ, go_sem, eqV, plen, loadV, storeV, w8])
  have hs2 : (s + 1) % 256 < 256 := Nat.mod_lt _ (by omega)
  by_cases hlt2 : (B.drop at').length < m
  · rw [List.length_drop] at hlt2
    have hnb2 : n = B.length - at' := by omega
    have hR : spS m (f + 1) out (B.drop at') s = (out ++ (hdB n s ++ piece'), (s + 1) % 256) := by
      rw [spS, if_pos (by rw [List.length_drop]; exact hlt2), List.length_drop, ← hnb2, ← hpc, List.take_of_length_le (by rw [List.length_drop]; omega)]
    have hnmI : (n : Int) < (m : Int) := by omega
    rw [hR]
    refine Tells.of (o := ⟨.ret, [(6, .sl o 0 (out ++ (hdB n s ++ piece')).length (g + 2)), (7, .int .u8 (((s + 1) % 256 : Nat) : Int)), (8, .int .i64 0)], HU⟩) ⟨0, ?_⟩ (.inr ⟨by simp, rfl, o, g + 2, ob2, rfl, rfl, rfl, hk2, hw2⟩)
    unfold rpFn
    generalize (out ++ (hdB n s ++ piece')).length = N2 at *
    generalize (s + 1) % 256 = s' at *
    simp (maxSteps := 2000000) -implicitDefEqProofs [-getElem?_pos, List.getElem?_cons_zero, List.getElem?_cons_succ, go_sem, eqV, plen, loadV, storeV, hnmI, assignV]
  · rw [List.length_drop] at hlt2
    have hnm2 : n = m := by omega
    have hR : spS m (f + 1) out (B.drop at') s = spS m f (out ++ (hdB n s ++ piece')) (B.drop at2) ((s + 1) % 256) := by
      rw [spS, if_neg (by rw [List.length_drop]; exact hlt2), ← hnm2, ← hpc, List.drop_drop, hat2]
    refine Tells.of (o := ⟨.normal, rpFr c B m ((s + 1) % 256) o (g + 2) at2 (out ++ (hdB n s ++ piece')) ++ [(54, .bool false)], HU⟩) ⟨0, ?_⟩ (.inl ⟨rfl, B.length - at2, by omega, (s + 1) % 256, o, g + 2, at2, _, ob2, f, _, rfl, by omega, rfl, .inr rfl, hs2, by omega, by rw [hol]; omega, hk2, hw2, hR⟩)
    have hnmI : ¬ (n : Int) < (m : Int) := by omega
    unfold rpFn rpFr
    generalize (out ++ (hdB n s ++ piece')).length = N2 at *
    generalize (s + 1) % 256 = s' at *
    simp (maxSteps := 2000000) -implicitDefEqProofs [-getElem?_pos, List.getElem?_cons_zero, List.getElem?_cons_succ, go_sem, eqV, plen, loadV, storeV, hnmI]

set_option maxRecDepth 100000 in
set_option maxHeartbeats 4000000 in
theorem rsplit_code (s : Nat) (m : Int) (hs : s < 256) (hc : c = 0 → B = []) (hb : B.length ≤ 1000000) : ∃ code, Try.f11.body = some code ∧
    Tells (Rets (spQ (split B s m))) X (evT X) 11 0 code [(0, .ro c (.pb B) 1), (1, .int .u8 (s : Nat)), (2, .int .i64 m)] [] := by
  refine ⟨_, rfl, ?_⟩
  apply Tells.seq (fr' := [(0, .ro c (.pb B) 1), (1, .int .u8 (s : Nat)), (2, .int .i64 m)]) (H' := [some nilB])
  · (refine ⟨0, ?_⟩; simp (maxSteps := 2000000) -implicitDefEqProofs [-getElem?_pos, List.getElem?_cons_zero, List.getElem?_cons_succ, go_sem, eqV, plen, loadV, storeV, assignV, emB])
  by_cases hm : m < 1 ∨ 16777215 < m
  · rw [show split B s m = ([], 0, 2) from if_pos hm]
    refine Tells.of (o := ⟨.ret, [(6, .sl 1 0 0 0), (7, .int .u8 0), (8, .int .i64 2)], [some nilB, some nilB]⟩) ?_ ⟨rfl, 1, 0, nilB, rfl, rfl, rfl, rfl, nilB_rw⟩
    apply Run.seq_out (hne := by simp)
    refine ⟨0, ?_⟩
    by_cases h1 : m < 1
    · simp (maxSteps := 2000000) -implicitDefEqProofs [-getElem?_pos, List.getElem?_cons_zero, List.getElem?_cons_succ, go_sem, eqV, plen, loadV, storeV, h1, assignV, emB]
    · have h2 : 16777215 < m := by omega
      simp (maxSteps := 2000000) -implicitDefEqProofs [-getElem?_pos, List.getElem?_cons_zero, List.getElem?_cons_succ, go_sem, eqV, plen, loadV, storeV, h1, h2, assignV, emB]
  have hm1 : ¬ m < 1 := by omega
  have hm2 : ¬ 16777215 < m := by omega
  apply Tells.seq (fr' := [(0, .ro c (.pb B) 1), (1, .int .u8 (s : Nat)), (2, .int .i64 m), (17, .bool false)]) (H' := [some nilB])
  · (refine ⟨0, ?_⟩; simp (maxSteps := 2000000) -implicitDefEqProofs [-getElem?_pos, List.getElem?_cons_zero, List.getElem?_cons_succ, go_sem, eqV, plen, loadV, storeV, hm1, hm2])
  have h5i : ¬ (1073741824 : Int) < (B.length : Int) := by omega
  apply Tells.seq (fr' := [(0, .ro c (.pb B) 1), (1, .int .u8 (s : Nat)), (2, .int .i64 m), (20, .bool false)]) (H' := [some nilB])
  · (refine ⟨0, ?_⟩; simp (maxSteps := 2000000) -implicitDefEqProofs [-getElem?_pos, List.getElem?_cons_zero, List.getElem?_cons_succ, go_sem, eqV, plen, loadV, storeV, h5i])
  obtain ⟨n, rfl⟩ : ∃ n : Nat, m = (n : Nat) := ⟨m.toNat, by omega⟩
  apply Tells.seq (fr' := [(0, .ro c (.pb B) 1), (1, .int .u8 (s : Nat)), (2, .int .i64 (n : Nat)), (9, .sl 1 0 0 0)]) (H' := [some nilB, some nilB])
  · (refine ⟨0, ?_⟩; simp (maxSteps := 2000000) -implicitDefEqProofs [-getElem?_pos, List.getElem?_cons_zero, List.getElem?_cons_succ, go_sem, eqV, plen, loadV, storeV, assignV, emB])
  apply Tells.seq (fr' := rpFr c B n s 1 0 0 []) (H' := [some nilB, some nilB])
  · unfold rpFr
    (refine ⟨0, ?_⟩; simp (maxSteps := 2000000) -implicitDefEqProofs [-getElem?_pos, List.getElem?_cons_zero, List.getElem?_cons_succ, go_sem, eqV, plen, loadV, storeV])
  rw [show split B s (n : Nat) = ((spS n (B.length + 1) [] B s).1, (spS n (B.length + 1) [] B s).2, 0) by unfold split; rw [if_neg hm, if_neg (by omega)]; rfl]
  exact piece (rp_loop c B n s 1 nilB _ (by omega) (by omega) hs hc hb rfl nilB_rw) _ rfl

end

theorem rsplit_ev {H : AM.Heap} {a : AV} {b : List UInt8} {s : Nat} {m : Int} (h : Byt H a b) (hs : s < 256) (hb : b.length ≤ 1000000) :
    ∃ ob, Rw (.pb (split b s m).1) 0 ob ∧ evT X 11 [a, .int .u8 (s : Nat), .int .i64 m] H = some (.tup [.sl H.length 0 (split b s m).1.length 0, .int .u8 ((split b s m).2.1 : Nat), .int .i64 (split b s m).2.2], H ++ [some ob]) := by
  obtain ⟨c, p, xl, hp, hc, hx'⟩ := args_byt (C := X) (f := 11) (i := 0) rfl h (args_flat (i := 1) (a := .int .u8 (s : Nat)) rfl rfl (args_flat (i := 2) (a := .int .i64 m) rfl rfl (args_nil 3)))
  obtain ⟨code, hcode, hr⟩ := rsplit_code c b s m hs hc hb
  obtain ⟨ob, q1, q2⟩ := Ev1.newB (H := H) (n := (split b s m).1.length) (l := (split b s m).1) (rest := [.int .u8 ((split b s m).2.1 : Nat), .int .i64 (split b s m).2.2]) (evT_below X) Try.func11 hcode hx' (by simp [idsL, ids, hp.ids]) (by simp [gtag]) rfl rfl rfl (by
    obtain ⟨o, ⟨he, o1, g, ob, q1, q2, q3, q4, q5⟩, hrun⟩ := hr
    exact ⟨o, ⟨he, o1, g, ob, by show some [getF o.fr 6, getF o.fr 7, getF o.fr 8] = _; rw [q1, q2, q3], q4, q5⟩, by rw [par11, coB hp]; exact hrun⟩)
  exact ⟨ob, q1, evT_eq q2⟩

end Go.Proofs.Ytconnpileacfeaa

/- Walks: the law PacketCalls. -/
namespace Go.Proofs.Ytconnpileacfeaa
open Go.AM
set_option linter.unusedSimpArgs false
set_option linter.unusedVariables false

theorem lives_ev (H : AM.Heap) : evT X 8 [] H = some (.bool true, H) :=
  evT_eq (Ev1.triedP (T := fun _ _ _ => none) Below.none (n := 400) (f := 8) (args := []) (v := .bool true) (by kernel_rfl) rfl H)

theorem joinR_len {b : List UInt8} (m lim : Int) (hb : b.length ≤ 3000) : (joinR b m lim).1.length ≤ 3000 := by
  unfold joinR
  split
  · simp
  · exact (fdL_bound (b.length + 1) { joinS b m lim with rest := b } [] 3000 (by simp [joinS]; omega) (by simp)).1

section
variable (c : Nat) (b : List UInt8) (s : Nat) (m lim : Int)

set_option maxRecDepth 100000 in
set_option maxHeartbeats 4000000 in
theorem calls_code (hc : c = 0 → b = []) (hs : s < 256) : ∃ code, Try.f3.body = some code ∧
    Tells (Rets fun fr H => getF fr 8 = .bool true) X (evT X) 3 0 code [(0, .ro c (.pb b) 1), (1, .int .u8 (s : Nat)), (2, .int .i64 m), (3, .int .i64 lim)] [] := by
  refine ⟨_, rfl, ?_⟩
  have hL := fun H => lives_ev H
  have hro : ∀ H, Byt H (.ro c (.pb b) 1) b := fun H => Byt.ro (.inl rfl) hc
  apply Tells.seq (fr' := [(0, .ro c (.pb b) 1), (1, .int .u8 (s : Nat)), (2, .int .i64 m), (3, .int .i64 lim)]) (H' := [])
  · (refine ⟨0, ?_⟩; simp (maxSteps := 2000000) -implicitDefEqProofs [-getElem?_pos, List.getElem?_cons_zero, List.getElem?_cons_succ, go_sem, eqV, plen, loadV, storeV])
  apply Tells.seq (fr' := [(0, .ro c (.pb b) 1), (1, .int .u8 (s : Nat)), (2, .int .i64 m), (3, .int .i64 lim), (21, .bool false)]) (H' := [])
  · (refine ⟨0, ?_⟩; simp (maxSteps := 2000000) -implicitDefEqProofs [-getElem?_pos, List.getElem?_cons_zero, List.getElem?_cons_succ, go_sem, eqV, plen, loadV, storeV, hL, unV])
  by_cases hb : (3000 : Int) < (b.length : Int)
  · refine Tells.of (o := ⟨.ret, [(8, .bool true)], []⟩) ⟨0, ?_⟩ ⟨rfl, rfl⟩
    simp (maxSteps := 2000000) -implicitDefEqProofs [-getElem?_pos, List.getElem?_cons_zero, List.getElem?_cons_succ, go_sem, eqV, plen, loadV, storeV, hb]
  have hbl : b.length ≤ 3000 := by omega
  apply Tells.seq (fr' := [(0, .ro c (.pb b) 1), (1, .int .u8 (s : Nat)), (2, .int .i64 m), (3, .int .i64 lim), (24, .bool false)]) (H' := [])
  · (refine ⟨0, ?_⟩; simp (maxSteps := 2000000) -implicitDefEqProofs [-getElem?_pos, List.getElem?_cons_zero, List.getElem?_cons_succ, go_sem, eqV, plen, loadV, storeV, hb])
  obtain ⟨obo, hO, hOw⟩ := own_ev (H := []) (hro _) (by omega)
  apply Tells.seq (fr' := [(0, .ro c (.pb b) 1), (1, .int .u8 (s : Nat)), (2, .int .i64 m), (3, .int .i64 lim), (9, .sl 0 0 b.length 0)]) (H' := [some obo])
  · simp only [List.cons_append, List.nil_append, List.length_cons, List.length_nil] at hOw
    (refine ⟨0, ?_⟩; simp (maxSteps := 2000000) -implicitDefEqProofs [-getElem?_pos, List.getElem?_cons_zero, List.getElem?_cons_succ, go_sem, eqV, plen, loadV, storeV, hOw, assignV])
  obtain ⟨ob1, hw1, hA1⟩ := split_ev (H := [some obo]) (a := .sl 0 0 b.length 0) (m := m) (OwnB.byt rfl hO) hs (by omega)
  obtain ⟨ob2, hw2, hA2⟩ := rsplit_ev (H := [some obo, some ob1]) (a := .ro c (.pb b) 1) (m := m) (hro _) hs (by omega)
  generalize split b s m = x at *
  obtain ⟨xb, xs, xe⟩ := x
  simp only at hw1 hw2 hA1 hA2
  apply Tells.seq (fr' := [(0, .ro c (.pb b) 1), (1, .int .u8 (s : Nat)), (2, .int .i64 m), (3, .int .i64 lim), (9, .sl 0 0 b.length 0), (10, .sl 1 0 xb.length 0), (11, .int .u8 (xs : Nat)), (12, .int .i64 xe)]) (H' := [some obo, some ob1])
  · simp only [List.cons_append, List.nil_append, List.length_cons, List.length_nil] at hA1
    generalize b.length = N at *
    (refine ⟨0, ?_⟩; simp (maxSteps := 2000000) -implicitDefEqProofs [-getElem?_pos, List.getElem?_cons_zero, List.getElem?_cons_succ, go_sem, eqV, plen, loadV, storeV, hA1, assignV])
  apply Tells.seq (fr' := [(0, .ro c (.pb b) 1), (2, .int .i64 m), (3, .int .i64 lim), (9, .sl 0 0 b.length 0), (10, .sl 1 0 xb.length 0), (11, .int .u8 (xs : Nat)), (12, .int .i64 xe), (13, .sl 2 0 xb.length 0), (14, .int .u8 (xs : Nat)), (15, .int .i64 xe)]) (H' := [some obo, some ob1, some ob2])
  · simp only [List.cons_append, List.nil_append, List.length_cons, List.length_nil] at hA2
    generalize b.length = N at *
    (refine ⟨0, ?_⟩; simp (maxSteps := 2000000) -implicitDefEqProofs [-getElem?_pos, List.getElem?_cons_zero, List.getElem?_cons_succ, go_sem, eqV, plen, loadV, storeV, hA2, assignV])
  have hSB := sameB_ev (H := [some obo, some ob1, some ob2]) (Byt.whole (o := 1) rfl hw1) (Byt.whole (o := 2) rfl hw2)
  rw [beq_self_eq_true] at hSB
  have hK := kept_ev (H := [some obo, some ob1, some ob2]) (o := 0) (t := 1) rfl hO hc (by omega)
  apply Tells.assoc
  apply Tells.seq (fr' := [(0, .ro c (.pb b) 1), (2, .int .i64 m), (3, .int .i64 lim), (9, .sl 0 0 b.length 0), (62, .bool false)]) (H' := [some obo, some ob1, some ob2])
  · generalize b.length = N at *
    (refine ⟨0, ?_⟩; simp (maxSteps := 2000000) -implicitDefEqProofs [-getElem?_pos, List.getElem?_cons_zero, List.getElem?_cons_succ, go_sem, eqV, plen, loadV, storeV, hSB, hK, unV])
  apply Tells.seq (fr' := [(0, .ro c (.pb b) 1), (2, .int .i64 m), (3, .int .i64 lim), (9, .sl 0 0 b.length 0), (62, .bool false)]) (H' := [some obo, some ob1, some ob2])
  · exact Run.cond (d := false) (by simp [evalO, getF]) ⟨0, rfl⟩
  have hjl := joinR_len m lim hbl
  obtain ⟨H3, hJ, hp3, ob3, rfl⟩ := join_ev (H := [some obo, some ob1, some ob2]) (a := .sl 0 0 b.length 0) m lim (OwnB.byt rfl hO) hbl
  obtain ⟨H4, hJ2, hp4, ob4, rfl⟩ := rjoin_ev (H := [some obo, some ob1, some ob2] ++ [some ob3]) (a := .ro c (.pb b) 1) m lim (hro _) hbl
  have hp3' : PkR 0 ([some obo, some ob1, some ob2] ++ [some ob3] ++ [some ob4]) 3 (joinR b m lim).1.length 0 (joinR b m lim).1 := by
    obtain ⟨l, ob, τ, h1, h2, h3, h4, h5⟩ := hp3
    exact ⟨l, ob, τ, h1, h2, h3, at_cat h4, h5⟩
  have hSP := spk_ev hp3' hp4 (by omega)
  simp only [List.cons_append, List.nil_append, List.length_cons, List.length_nil] at hJ hJ2 hSP
  generalize joinR b m lim = y at *
  obtain ⟨ys, yn, ye⟩ := y
  simp only at hJ hJ2 hSP
  generalize ys.length = Y at *
  apply Tells.seq (fr' := [(0, .ro c (.pb b) 1), (2, .int .i64 m), (3, .int .i64 lim), (12, .int .i64 ye), (16, .sl 3 0 Y 0), (17, .int .i64 (yn : Nat))]) (H' := [some obo, some ob1, some ob2, some ob3])
  · generalize b.length = N at *
    (refine ⟨0, ?_⟩; simp (maxSteps := 2000000) -implicitDefEqProofs [-getElem?_pos, List.getElem?_cons_zero, List.getElem?_cons_succ, go_sem, eqV, plen, loadV, storeV, hJ, assignV])
  apply Tells.seq (fr' := [(12, .int .i64 ye), (15, .int .i64 ye), (16, .sl 3 0 Y 0), (17, .int .i64 (yn : Nat)), (18, .sl 4 0 Y 0), (19, .int .i64 (yn : Nat))]) (H' := [some obo, some ob1, some ob2, some ob3, some ob4])
  · (refine ⟨0, ?_⟩; simp (maxSteps := 2000000) -implicitDefEqProofs [-getElem?_pos, List.getElem?_cons_zero, List.getElem?_cons_succ, go_sem, eqV, plen, loadV, storeV, hJ2, assignV])
  refine Tells.of (o := ⟨.ret, [(8, .bool true)], [some obo, some ob1, some ob2, some ob3, some ob4]⟩) ⟨0, ?_⟩ ⟨rfl, rfl⟩
  simp (maxSteps := 2000000) -implicitDefEqProofs [-getElem?_pos, List.getElem?_cons_zero, List.getElem?_cons_succ, go_sem, eqV, plen, loadV, storeV, hSP]

end

end Go.Proofs.Ytconnpileacfeaa
