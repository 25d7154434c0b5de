/- What the document's Read tells: the same. -/
import Derived.Test.YtmdciglfpedhgaaKJ
namespace Go.Proofs.Ytmdciglfpedhgaa
open Go.AM
set_option linter.unusedSimpArgs false
set_option linter.unusedVariables false

theorem wr_ne {b : Bool} {e : Int} (h : e ≠ 0) : wr b e = e := by unfold wr; rw [if_neg (fun hh => h hh.1)]
theorem fx_e {n : Nat} {s : St} (h : s.2 ≠ 0) : fx n s = (0, s) := by unfold fx; rw [if_pos h]

theorem s3_eq (r : Nat × St) : ((r.2.1, wr (decide ((1 : Int) < (r.1 : Nat))) r.2.2) : St) = if r.2.2 = 0 ∧ 1 < r.1 then (r.2.1, 5) else r.2 := by
  obtain ⟨f, b, e⟩ := r
  by_cases h : e = 0 <;> by_cases h2 : 1 < f
  all_goals
    have h3 : ((1 : Int) < (f : Nat)) ↔ 1 < f := by omega
    simp [wr, h, h2, h3]

theorem s5_eq (r : Nat × St) : ((r.2.1, wr ((r.1 : Int) != 1) r.2.2) : St) = if r.1 ≠ 1 ∧ r.2.2 = 0 then (r.2.1, 5) else r.2 := by
  obtain ⟨f, b, e⟩ := r
  by_cases h : e = 0 <;> by_cases h2 : f = 1
  all_goals
    have h3 : ((f : Int) = 1) ↔ f = 1 := by omega
    simp [wr, h, h2, h3]

theorem rs_same (s : St) : (rsS s).2 = s.2 ∧ (s.2 = 0 → rsF s = s.1 ∧ rsS s = ([], s.2)) := by
  unfold rsS rsF
  by_cases h : s.2 = 0
  · rw [if_neg (by simpa using h), if_neg (by simpa using h)]
    exact ⟨h.symm, fun _ => ⟨rfl, by rw [h]⟩⟩
  · rw [if_pos h, if_pos h]
    exact ⟨rfl, fun hh => absurd hh h⟩

theorem body_same (k : Nat) (s : St) : (bodyF k s).2.2 = (bodyR k s).2.2 ∧ ((bodyR k s).2.2 = 0 → bodyF k s = bodyR k s) := by
  have h9 := shp_lt k
  unfold bodyF bodyR
  generalize shp k = j at *
  match j, h9 with
  | 0, _ | 2, _ | 5, _ | 6, _ | 7, _ => exact ⟨rfl, fun _ => rfl⟩
  | 1, _ | 8, _ =>
    obtain ⟨q1, q2⟩ := rs_same s
    exact ⟨q1, fun h => by obtain ⟨e1, e2⟩ := q2 h; simp only [e1, e2]⟩
  | 4, _ =>
    obtain ⟨q1, q2⟩ := rs_same (fx 2 (fx 4 s).2).2
    exact ⟨q1, fun h => by obtain ⟨e1, e2⟩ := q2 h; simp only [e1, e2]⟩
  | 3, _ =>
    simp only
    rw [s3_eq]
    generalize (if (fx 1 (fx 4 s).2).2.2 = 0 ∧ 1 < (fx 1 (fx 4 s).2).1 then ((fx 1 (fx 4 s).2).2.1, (5 : Int)) else (fx 1 (fx 4 s).2).2) = s3
    rw [s5_eq]
    generalize (if (fx 4 s3).1 ≠ 1 ∧ (fx 4 s3).2.2 = 0 then ((fx 4 s3).2.1, (5 : Int)) else (fx 4 s3).2) = s5
    obtain ⟨q1, q2⟩ := rs_same s5
    exact ⟨q1, fun h => by obtain ⟨e1, e2⟩ := q2 h; simp only [e1, e2]⟩

theorem body_err {k : Nat} {s : St} (h : s.2 ≠ 0) : (bodyF k s).2.2 = s.2 := by
  have h9 := shp_lt k
  have h4 := fx_e (n := 4) h
  have h2 := fx_e (n := 2) h
  have h1 := fx_e (n := 1) h
  have hr : rsS s = s := by unfold rsS; rw [if_pos h]
  unfold bodyF
  generalize shp k = j at *
  match j, h9 with
  | 0, _ => rfl
  | 1, _ | 8, _ => simp only [hr]
  | 2, _ | 5, _ | 6, _ | 7, _ => simp only [h4, h2]
  | 4, _ => simp only [h4, h2, hr]
  | 3, _ =>
    simp only [h4, h1, wr_ne h]
    exact congrArg Prod.snd hr

theorem readF_eq (b : List UInt8) : readF b = readR b := by
  unfold readF readR finF
  generalize (fx 1 (b, 0)).1 = k
  generalize (fx 1 (b, 0)).2 = s
  simp only
  by_cases h : s.2 = 0
  · obtain ⟨q1, q2⟩ := body_same k s
    by_cases h2 : (bodyR k s).2.2 = 0
    · rw [q2 h2]
      by_cases h3 : (bodyR k s).2.1 = []
      · simp [wr, h, h2, h3]
      · have h4 : 0 < (bodyR k s).2.1.length := List.length_pos_iff.2 h3
        simp [wr, h, h2, h3, h4]
    · rw [q1, wr_ne h2]
      simp [h, h2]
  · rw [body_err h, wr_ne h]
    simp [h]

theorem rread_ev {H : AM.Heap} {a : AV} {b : List UInt8} (h : Byt H a b) (hb : b.length ≤ 1000000) :
    ∃ d N, evT X 14 [a] H = some (.tup [.agg ((readR b).1.pay d), .int .i64 (readR b).2], H ++ N) ∧ datIs (H ++ N) d (readR b).1.dat := by
  obtain ⟨c, p, xl, hp, hc, hx⟩ := args_byt (C := X) (f := 14) (i := 0) rfl h (args_nil 1)
  obtain ⟨code, hcode, ⟨ex, fr, H1⟩, ⟨he, d, h2, h3, h0, hd⟩, hrun⟩ := readF_code c b hc hb
  rw [readF_eq] at h3 h0 hd
  simp only at he h2 h3 h0 hd
  subst he
  have hrun' : Run X (evT X) 14 0 code (numbered 0 (coerce X [.ro c p 1] (paramsOf X 14))) [] ⟨.ret, fr, H1⟩ := by
    rw [par14, coB hp]
    exact hrun
  have hres : resultsV X fr H1 (Try.f14.results.toList) = some [.agg ((readR b).1.pay d), .int .i64 (readR b).2] := by
    show (match loadV X H1 26 (getF fr 2), some [getF fr 3] with | some v, some l => some (v :: l) | _, _ => none) = _
    rw [h2, load26 h0, h3]
  have hpi : idsL [AV.ro c p 1] = [] := by simp [idsL, ids, hp.ids]
  generalize readR b = r at *
  rcases hd with ⟨rfl, hdl⟩ | ⟨o, ob, rfl, ho, hw⟩
  · refine ⟨.ro 0 .pn 0, [], ?_, .inl ⟨rfl, hdl⟩⟩
    rw [List.append_nil]
    exact evT_eq (Ev1.toldZ (l := [.agg (r.1.pay (.ro 0 .pn 0)), .int .i64 r.2]) (evT_below X) Try.func14 hcode hx hpi (by simp [gtag]) rfl (by simp [Cm.pay, tagsL, tags]) rfl ⟨_, ⟨rfl, hres⟩, hrun'⟩)
  · refine ⟨.sl H.length 0 r.1.dat.length 0, [some (AM.fresh ob)], ?_, .inr ⟨H.length, AM.fresh ob, rfl, by simp, ⟨hw.p, rfl, hw.row, hw.ids, rfl⟩⟩⟩
    have := Ev1.fresh (H := H) (l := [.agg (r.1.pay (.sl o 0 r.1.dat.length 0)), .int .i64 r.2]) (o := o) (g := 0) (ob := ob) (evT_below X) Try.func14 hcode hx hpi (by simp [gtag]) hrun' (.inr rfl) hres rfl rfl (by simp [live, ho, hw.g]) hw.ids (by rw [hw.p]; rfl) hw.tg
    refine (evT_eq this).trans ?_
    simp [resultV, noTups, ren, renL, Cm.pay]

theorem rabout_ev {k : Nat} (hk : k < 256) (H : AM.Heap) : evT X 31 [.int .u8 (k : Nat)] H = some (.bool (abt k), H) :=
  evT_eq (Ev1.each (T := fun _ _ _ => none) Below.none (n := 80) (f := 31) (N := 256) (a := fun k => .int .u8 (k : Nat)) (v := fun k => .bool (abt k)) (by kernel_rfl) (fun _ => rfl) hk H)

end Go.Proofs.Ytmdciglfpedhgaa
