/- Plain: both readings of a column agree. -/
import Derived.Test.YtkgchoknkakcgaaP9
namespace Go.Proofs.Ytkgchoknkakcgaa
open Go.AM
set_option linter.unusedSimpArgs false
set_option linter.unusedVariables false

/-- the same error; without one, the same left -/
def Rel (s s' : St) : Prop := s.2 = s'.2 ∧ (s.2 = 0 → s.1 = s'.1)

theorem wr_zero {bad : Bool} {e : Int} (h : wr bad e = 0) : e = 0 ∧ bad = false := by
  unfold wr at h
  by_cases h0 : e = 0
  · cases bad with
    | true => rw [if_pos ⟨h0, rfl⟩] at h; cases h
    | false => exact ⟨h0, rfl⟩
  · rw [if_neg (fun k => h0 k.1)] at h; exact absurd h h0

theorem wr_keep {bad : Bool} {e : Int} (h : e ≠ 0) : wr bad e = e := by
  unfold wr; rw [if_neg (fun k => h k.1)]

theorem ms_zero {bad : Bool} {s : St} (h : (ms bad s).2 = 0) : s.2 = 0 := (wr_zero h).1
theorem fx_zero {n : Nat} {s : St} (h : (fx n s).2.2 = 0) : s.2 = 0 := by
  unfold fx at h
  by_cases h0 : s.2 = 0
  · exact h0
  · rw [if_pos h0] at h; exact h
theorem tx_zero {s : St} (h : (tx s).2.2 = 0) : s.2 = 0 := by
  unfold tx at h
  by_cases h0 : s.2 = 0
  · exact h0
  · rw [if_pos h0] at h; exact h

theorem Rel.ms {s s' : St} {bad bad' : Bool} (h : Rel s s') (hb : s.2 = 0 → bad = bad') : Rel (ms bad s) (ms bad' s') := by
  unfold Rel Go.Proofs.Ytkgchoknkakcgaa.ms
  simp only
  by_cases h0 : s.2 = 0
  · rw [hb h0, h.1]; exact ⟨rfl, fun _ => h.2 h0⟩
  · rw [wr_keep h0, wr_keep (by rw [← h.1]; exact h0)]
    exact ⟨h.1, fun k => absurd k h0⟩

theorem Rel.fx {n : Nat} {s s' : St} (h : Rel s s') : Rel (fx n s).2 (fx n s').2 ∧ ((fx n s).2.2 = 0 → (fx n s).1 = (fx n s').1) := by
  by_cases h0 : s.2 = 0
  · have : s = s' := Prod.ext (h.2 h0) h.1
    subst this
    exact ⟨⟨rfl, fun _ => rfl⟩, fun _ => rfl⟩
  · have e1 : Go.Proofs.Ytkgchoknkakcgaa.fx n s = (0, s) := by unfold Go.Proofs.Ytkgchoknkakcgaa.fx; rw [if_pos h0]
    have e2 : Go.Proofs.Ytkgchoknkakcgaa.fx n s' = (0, s') := by unfold Go.Proofs.Ytkgchoknkakcgaa.fx; rw [if_pos (by rw [← h.1]; exact h0)]
    rw [e1, e2]
    exact ⟨h, fun _ => rfl⟩

theorem tx_of {b : List UInt8} : tx (b, 0) = if txE (b, 0) ≠ 0 then ([], b, txE (b, 0)) else ((rdT b).1, b.drop (rdT b).2.1, 0) := by
  unfold tx; rw [if_neg (by simp)]
theorem rtF_of {b : List UInt8} : rtF (b, 0) = ((rdT b).1, b.drop (rdT b).2.1, (rdT b).2.2) := by
  unfold rtF; rw [if_neg (by simp)]

theorem Rel.tx {s s' : St} (h : Rel s s') : Rel (tx s).2 (rx s').2 ∧ ((tx s).2.2 = 0 → (tx s).1 = (rx s').1) := by
  obtain ⟨b, e⟩ := s
  obtain ⟨b', e'⟩ := s'
  obtain ⟨h1, h2⟩ := h
  simp only at h1 h2
  subst h1
  by_cases h0 : e = 0
  · subst h0
    obtain rfl := h2 rfl
    unfold rx
    rw [tx_of, rtF_of]
    unfold txE Go.Proofs.Ytkgchoknkakcgaa.ms Rel
    simp only
    by_cases hr : (rdT b).2.2 = 0
    · rw [hr]
      by_cases hl : 255 < (rdT b).1.length
      · have E : (if (0 : Int) = 0 ∧ 255 < (rdT b).1.length then (5 : Int) else 0) = 5 := if_pos ⟨rfl, hl⟩
        rw [E, if_pos (by simp), decide_eq_true hl]
        exact ⟨⟨rfl, fun h => by cases h⟩, fun h => by cases h⟩
      · have E : (if (0 : Int) = 0 ∧ 255 < (rdT b).1.length then (5 : Int) else 0) = 0 := if_neg (fun h => hl h.2)
        rw [E, if_neg (by simp), decide_eq_false hl]
        exact ⟨⟨rfl, fun _ => rfl⟩, fun _ => rfl⟩
    · have E : (if (rdT b).2.2 = 0 ∧ 255 < (rdT b).1.length then (5 : Int) else (rdT b).2.2) = (rdT b).2.2 := if_neg (fun h => hr h.1)
      rw [E, if_pos hr, wr_keep hr]
      exact ⟨⟨rfl, fun h => absurd h hr⟩, fun h => absurd h hr⟩
  · have e1 : Go.Proofs.Ytkgchoknkakcgaa.tx (b, e) = ([], b, e) := by unfold Go.Proofs.Ytkgchoknkakcgaa.tx; rw [if_pos h0]
    have e2 : rtF (b', e) = ([], b', e) := by unfold rtF; rw [if_pos h0]
    unfold rx
    rw [e1, e2]
    unfold Go.Proofs.Ytkgchoknkakcgaa.ms Rel
    simp only
    rw [wr_keep h0]
    exact ⟨⟨rfl, fun h => absurd h h0⟩, fun h => absurd h h0⟩

theorem relDef (b : List UInt8) : Rel (ms ((q0 b).1 != defC) (q0 b).2) (ms ((p0 b).1 != defC) (p0 b).2) := by
  unfold q0 p0
  rw [tx_of, rtF_of]
  unfold txE
  simp only
  by_cases hr : (rdT b).2.2 = 0
  · rw [hr]
    by_cases hl : 255 < (rdT b).1.length
    · have E : (if (0 : Int) = 0 ∧ 255 < (rdT b).1.length then (5 : Int) else 0) = 5 := if_pos ⟨rfl, hl⟩
      have hne : ((rdT b).1 != defC) = true := by
        simp only [bne_iff_ne, ne_eq]
        intro h; rw [h] at hl; simp [defC] at hl
      rw [E, if_pos (by simp), hne]
      exact ⟨rfl, fun h => by cases h⟩
    · have E : (if (0 : Int) = 0 ∧ 255 < (rdT b).1.length then (5 : Int) else 0) = 0 := if_neg (fun h => hl h.2)
      rw [E, if_neg (by simp)]
      exact ⟨rfl, fun _ => rfl⟩
  · have E : (if (rdT b).2.2 = 0 ∧ 255 < (rdT b).1.length then (5 : Int) else (rdT b).2.2) = (rdT b).2.2 := if_neg (fun h => hr h.1)
    rw [E, if_pos hr]
    unfold ms Rel
    simp only
    rw [wr_keep hr, wr_keep hr]
    exact ⟨rfl, fun h => absurd h hr⟩

theorem leV_zero : ∀ l : List UInt8, (leV l != 0) = l.any (· != 0)
  | [] => rfl
  | y :: r => by
    have ih := leV_zero r
    rw [List.any_cons, ← ih]
    have hy := y.toNat_lt
    rw [Bool.eq_iff_iff]
    simp only [leV, bne_iff_ne, ne_eq, Bool.or_eq_true]
    constructor
    · intro h
      by_cases h0 : y = 0
      · right; subst h0; intro h2; rw [h2] at h; exact h rfl
      · exact .inl h0
    · rintro (h | h) h2
      · exact h (UInt8.toNat_inj.1 (by simp; omega))
      · omega

theorem both (b : List UInt8) : rrdC b = rdC b := by
  have r1 := (relDef b).tx
  have r2 := r1.1.tx
  have r3 := r2.1.tx
  have r4 := r3.1.tx
  have r5 := r4.1.tx
  have r6 := r5.1.fx (n := 1)
  have r7 := (r6.1.ms (bad := (q6 b).1 != 12) (bad' := (p6 b).1 != 12) (fun h => by show ((fx 1 (q5 b).2).1 != 12) = _; rw [show (fx 1 (q5 b).2).1 = (p6 b).1 from r6.2 h])).fx (n := 2)
  have r8 := r7.1.fx (n := 4)
  have r9 := r8.1.fx (n := 1)
  have r10 := (r9.1.ms (bad := !kn (q9 b).1) (bad' := !kn (p9 b).1) (fun h => by show (!kn (fx 1 (q8 b).2).1) = _; rw [show (fx 1 (q8 b).2).1 = (p9 b).1 from r9.2 h])).fx (n := 2)
  have r11 := r10.1.fx (n := 1)
  have r12 := r11.1.fx (n := 2)
  have rz : Rel (ms ((q12 b).1 != 0) (q12 b).2) (pz b) := by
    refine r12.1.ms (bad := (q12 b).1 != 0) (bad' := (bts 2 (p11 b).2).any (· != 0)) fun h => ?_
    rw [← leV_zero, bts_fx]
    show ((fx 2 (q11 b).2).1 != 0) = _
    rw [show (fx 2 (q11 b).2).1 = (fx 2 (p11 b).2).1 from r12.2 h]
  have rf : Rel (qf b) (pf b) := rz.ms (bad := decide (0 < (q12 b).2.1.length)) (bad' := decide (0 < (pz b).1.length)) fun h => by
    have e := rz.2 h
    rw [show (q12 b).2.1 = (pz b).1 from e]
  unfold rrdC rdC
  by_cases h : (qf b).2 = 0
  · rw [if_neg (by rw [← rf.1]; simpa using h), if_neg (by simpa using h)]
    have z12 : (q12 b).2.2 = 0 := ms_zero (ms_zero h)
    have z11 : (q11 b).2.2 = 0 := fx_zero z12
    have z10 : (q10 b).2.2 = 0 := fx_zero z11
    have z9 : (q9 b).2.2 = 0 := ms_zero (fx_zero z10)
    have z8 : (q8 b).2.2 = 0 := fx_zero z9
    have z7 : (q7 b).2.2 = 0 := fx_zero z8
    have z6 : (q6 b).2.2 = 0 := ms_zero (fx_zero z7)
    have z5 : (q5 b).2.2 = 0 := fx_zero z6
    have z4 : (q4 b).2.2 = 0 := tx_zero z5
    have z3 : (q3 b).2.2 = 0 := tx_zero z4
    have z2 : (q2 b).2.2 = 0 := tx_zero z3
    have z1 : (q1 b).2.2 = 0 := tx_zero z2
    have e1 : (q1 b).1 = (p1 b).1 := r1.2 z1
    have e2 : (q2 b).1 = (p2 b).1 := r2.2 z2
    have e3 : (q3 b).1 = (p3 b).1 := r3.2 z3
    have e4 : (q4 b).1 = (p4 b).1 := r4.2 z4
    have e5 : (q5 b).1 = (p5 b).1 := r5.2 z5
    have e7 : (q7 b).1 = (p7 b).1 := r7.2 z7
    have e8 : (q8 b).1 = (p8 b).1 := r8.2 z8
    have e9 : (q9 b).1 = (p9 b).1 := r9.2 z9
    have e10 : (q10 b).1 = (p10 b).1 := r10.2 z10
    have e11 : (q11 b).1 = (p11 b).1 := r11.2 z11
    unfold qC pC
    rw [e1, e2, e3, e4, e5, e7, e8, e9, e10, e11]
  · rw [if_pos (by rw [← rf.1]; exact h), if_pos h, rf.1]

theorem rdC_ok (b : List UInt8) : CoOk (rdC b).1 := by
  unfold rdC
  by_cases h : (qf b).2 = 0
  · rw [if_neg (by simpa using h)]
    exact ⟨fx_lt (n := 2) _, fx_lt (n := 4) _, fx_lt (n := 1) _, fx_lt (n := 2) _, fx_lt (n := 1) _⟩
  · rw [if_pos h]
    exact ⟨by simp, by simp, by simp, by simp, by simp⟩

theorem read_ev {H : AM.Heap} {a : AV} {b : List UInt8} (h : Byt H a b) (hb : b.length ≤ 1000000) :
    evT X 7 [a] H = some (.tup [.agg (rdC b).1.pay, .int .i64 (rdC b).2], H) := by
  obtain ⟨c, p, xl, hp, hc, hx'⟩ := args_byt (C := X) (f := 7) (i := 0) rfl h (args_nil 1)
  obtain ⟨code, hcode, ⟨ex, fr, H1⟩, ⟨he, h2, h3, h0⟩, hrun⟩ := read_code c b hc hb
  simp only at he h2 h3 h0
  subst he
  refine evT_eq (Ev1.toldP (l := [.agg (rdC b).1.pay, .int .i64 (rdC b).2]) (evT_below X) Try.func7 hcode hx' (by simp [idsL, ids, hp.ids]) (by simp [gtag]) rfl rfl rfl ?_)
  rw [par7, coB hp]
  refine ⟨_, ⟨rfl, ?_⟩, hrun⟩
  show resultsV X fr H1 [.cell 2 28, .tmp 3] = _
  generalize (rdC b).1 = x at *
  simp [resultsV, h2, h3, loadV, live, h0, coO, Co.pay, pagg, mkCo]

theorem rread_ev {H : AM.Heap} {a : AV} {b : List UInt8} (h : Byt H a b) (hb : b.length ≤ 1000000) :
    evT X 8 [a] H = some (.tup [.agg (rdC b).1.pay, .int .i64 (rdC b).2], H) := by
  obtain ⟨c, p, xl, hp, hc, hx'⟩ := args_byt (C := X) (f := 8) (i := 0) rfl h (args_nil 1)
  obtain ⟨code, hcode, ⟨ex, fr, H1⟩, ⟨he, h2, h3, h0⟩, hrun⟩ := rread_code c b hc hb
  simp only at he h2 h3 h0
  subst he
  rw [both] at h3 h0
  refine evT_eq (Ev1.toldP (l := [.agg (rdC b).1.pay, .int .i64 (rdC b).2]) (evT_below X) Try.func8 hcode hx' (by simp [idsL, ids, hp.ids]) (by simp [gtag]) rfl rfl rfl ?_)
  rw [par8, coB hp]
  refine ⟨_, ⟨rfl, ?_⟩, hrun⟩
  show resultsV X fr H1 [.cell 2 28, .tmp 3] = _
  generalize (rdC b).1 = x at *
  simp [resultsV, h2, h3, loadV, live, h0, coO, Co.pay, pagg, mkCo]

end Go.Proofs.Ytkgchoknkakcgaa
