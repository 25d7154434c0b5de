/- J5 to J8: texts of this claim, one behind the other; what each shows stands at its head. -/
import Derived.Test.YtdjjekeaeoajpaaMg6
/- Walks: Blocks. -/
namespace Go.Proofs.Ytdjjekeaeoajpaa
open Go.AM
set_option linter.unusedSimpArgs false
set_option linter.unusedVariables false

section
variable {c : Nat} {b : List UInt8} {mo : Int}

theorem emK : emptyRow X 35 = .pr 4 [] := by kernel_rfl

def bloX (b : List UInt8) (mo : Int) (F : Nat) (fr : AM.Frame) (E : AM.Heap) : Prop :=
  ∃ L e o g τ ob, bloR F b mo = (L, e) ∧ getF fr 4 = .sl o 0 L.length g ∧ getF fr 5 = .int .i64 e ∧ (τ = 0 ∨ τ = 1) ∧ E[o]? = some (some ob) ∧ RwT (.pr 4 (L.map bkT)) g τ ob

set_option maxRecDepth 100000 in
theorem blo_r6 {m : Nat} {E : AM.Heap} {oa : Option Nat} {s : Is} {v : AV} (h : IrV c b mo 1 E 1 oa s) : ∃ code, ((Try.f10.body).bind (codeAt [1, 1, 1, 1, 0, 1, 0, 0])) = some code ∧
    Run X (evT X) 10 m code [(6, .ptr 1 0 0 0), (7, v), (20, .bool true)] E ⟨.normal, [(4, .sl E.length 0 0 0), (5, .int .i64 s.e)], E ++ [some (⟨.pr 4 [], 0, none, 0, true, false, 0⟩ : AM.Obj)]⟩ := by
  obtain ⟨⟨vo, τ1, τ, a1, a2, h0, ho⟩, hne⟩ := id h
  simp only [irBx] at h0
  have hE1 : 1 < E.length := ltAt h0
  have hE2 : ¬ E.length = 1 := by omega
  refine ⟨_, rfl, ?_⟩
  apply Run.dy (by simp) keep10_6 (by simp)
  · (conv => lhs; simp (maxSteps := 2000000) -implicitDefEqProofs [-getElem?_pos, List.getElem?_cons_zero, List.getElem?_cons_succ, go_sem, eqV, plen, loadV, storeV, runD, out1, markOf, freeO, quietO, pushes, isAssign, calledV, touched, mentioned, opVals, touchCall, mentionCall, idsAt, Op.operands, ids, idsL, lendArgs, lendV, lend1, lendL, eqH_self, h0, assignV, plainT, rowOf, emK])
  · refine marksOk_of (ps := [(0, 4), (1, 4), (2, 4), (3, 4)]) (by kernel_rfl) ?_
    simp [bearP, bear, disjoint, lookOk, Call.operands, evalO, getF, idsL, ids, plainT, hE1, hE2]
  · rfl

set_option maxRecDepth 100000 in
theorem blo_code {m F : Nat} (hb : b.length ≤ 100000) (hm : mo ≤ 1000000) (hm0 : 0 ≤ mo) (hF : 8 * b.length < F) (hF2 : F ≤ 1000000) : ∃ code, Try.f10.body = some code ∧
    Tells (Rets (bloX b mo F)) X (evT X) 10 m code [(0, .ro c (.pb b) 1), (1, .int .i64 mo)] [] := by
  refine ⟨_, rfl, ?_⟩
  apply Tells.seq (fr' := [(0, .ro c (.pb b) 1), (1, .int .i64 mo)]) (H' := [some (⟨.pr 4 [], 0, none, 0, true, false, 0⟩ : AM.Obj)])
  · (refine ⟨0, ?_⟩; simp (maxSteps := 2000000) -implicitDefEqProofs [-getElem?_pos, List.getElem?_cons_zero, List.getElem?_cons_succ, go_sem, eqV, plen, loadV, storeV, assignV, rowOf, emK])
  apply Tells.assoc
  apply Tells.seq (fr' := [(0, .ro c (.pb b) 1), (1, .int .i64 mo), (9, .bool false)]) (H' := [some (⟨.pr 4 [], 0, none, 0, true, false, 0⟩ : AM.Obj)])
  · have : ¬ mo < 0 := by omega
    (refine ⟨0, ?_⟩; simp (maxSteps := 2000000) -implicitDefEqProofs [-getElem?_pos, List.getElem?_cons_zero, List.getElem?_cons_succ, go_sem, eqV, plen, loadV, storeV, this])
  apply Tells.seq (fr' := [(0, .ro c (.pb b) 1), (1, .int .i64 mo), (9, .bool false)]) (H' := [some (⟨.pr 4 [], 0, none, 0, true, false, 0⟩ : AM.Obj)])
  · refine ⟨0, ?_⟩
    simp (maxSteps := 2000000) -implicitDefEqProofs [-getElem?_pos, List.getElem?_cons_zero, List.getElem?_cons_succ, go_sem, eqV, plen, loadV, storeV]
  apply Tells.seq (fr' := [(6, .ptr 1 0 0 0)]) (H' := [some (⟨.pr 4 [], 0, none, 0, true, false, 0⟩ : AM.Obj), some (irBx c b mo ⟨0, [], 0⟩ (.ro 0 .pn 0) 1 0)])
  · simp only [irBx]
    (refine ⟨0, ?_⟩; simp (maxSteps := 2000000) -implicitDefEqProofs [-getElem?_pos, List.getElem?_cons_zero, List.getElem?_cons_succ, go_sem, eqV, plen, loadV, storeV, bdIr, assignV])
  have hV : IrV c b mo 1 [some (⟨.pr 4 [], 0, none, 0, true, false, 0⟩ : AM.Obj), some (irBx c b mo ⟨0, [], 0⟩ (.ro 0 .pn 0) 1 0)] 1 none ⟨0, [], 0⟩ := ⟨⟨_, 1, 0, .inr rfl, .inl rfl, rfl, rfl, 0, .inl rfl, rfl⟩, fun a h => by cases h⟩
  generalize [some (⟨.pr 4 [], 0, none, 0, true, false, 0⟩ : AM.Obj), some (irBx c b mo ⟨0, [], 0⟩ (.ro 0 .pn 0) 1 0)] = E0 at *
  obtain ⟨E1, oa1, s1, a, g, τ, ob, R, L, hE, hV1, hrun, hRL, hk, hτ, hoa, hw, hfl, ha0, ha1, ha2⟩ := blocks_ev (F := F) hV ⟨by simp, by simpa using hm0⟩ hb hm rfl hF hF2
  apply Tells.seq (fr' := [(6, .ptr 1 0 0 0), (7, .sl a 0 R.length g)]) (H' := E1)
  · generalize R.length = N at *
    (refine ⟨0, ?_⟩; simp (maxSteps := 2000000) -implicitDefEqProofs [-getElem?_pos, List.getElem?_cons_zero, List.getElem?_cons_succ, go_sem, eqV, plen, loadV, storeV, hE, assignV])
  obtain ⟨⟨vo, τ1, τ', a1, a2, h0, ho⟩, hne⟩ := id hV1
  simp only [irBx] at h0
  apply Tells.assoc
  apply Tells.seq (fr' := [(6, .ptr 1 0 0 0), (7, .sl a 0 R.length g), (20, .bool (s1.e != 0))]) (H' := E1)
  · generalize R.length = N at *
    by_cases he : s1.e = 0
    · rw [he] at h0 ⊢
      (refine ⟨0, ?_⟩; simp (maxSteps := 2000000) -implicitDefEqProofs [-getElem?_pos, List.getElem?_cons_zero, List.getElem?_cons_succ, go_sem, eqV, plen, loadV, storeV, h0])
    · have heb : (s1.e != 0) = true := by simpa using he
      (refine ⟨0, ?_⟩; simp (maxSteps := 2000000) -implicitDefEqProofs [-getElem?_pos, List.getElem?_cons_zero, List.getElem?_cons_succ, go_sem, eqV, plen, loadV, storeV, h0, he, heb])
  by_cases he : s1.e = 0
  · have hok := (hrun.fine he).2
    simp only at hok
    have hR := hRL he
    subst hR
    rw [show (s1.e != 0) = false by simpa using he]
    apply Tells.seq (fr' := [(6, .ptr 1 0 0 0), (7, .sl a 0 (L.map bkT).length g), (20, .bool false)]) (H' := E1)
    · refine ⟨0, ?_⟩
      simp (maxSteps := 2000000) -implicitDefEqProofs [-getElem?_pos, List.getElem?_cons_zero, List.getElem?_cons_succ, go_sem, eqV, plen, loadV, storeV]
    refine Tells.of (o := ⟨.ret, [(4, .sl a 0 (L.map bkT).length g), (5, .int .i64 0)], E1⟩) ?_ ⟨rfl, L, 0, a, g, τ, ob, ?_, by simp [getF], rfl, hτ, hoa, hw⟩
    · generalize (L.map bkT).length = N at *
      refine ⟨0, ?_⟩
      simp (maxSteps := 2000000) -implicitDefEqProofs [-getElem?_pos, List.getElem?_cons_zero, List.getElem?_cons_succ, go_sem, eqV, plen, loadV, storeV, assignV]
    unfold bloR
    rw [if_neg (by omega), hok]
  · have h2 := hrun.2
    simp only [if_true] at h2
    rw [show (s1.e != 0) = true by simpa using he]
    refine Tells.seqOut ?_ (fun o ho => by rw [ho.1]; simp)
    refine Tells.condT (by simp [evalO, getF]) ?_
    apply Tells.seq (piece (blo_r6 hV1) _ rfl)
    refine Tells.of (o := ⟨.ret, [(4, .sl E1.length 0 0 0), (5, .int .i64 s1.e)], E1 ++ [some (⟨.pr 4 [], 0, none, 0, true, false, 0⟩ : AM.Obj)]⟩) ⟨0, rfl⟩ ⟨rfl, [], s1.e, E1.length, 0, 0, _, ?_, rfl, rfl, .inl rfl, List.getElem?_concat_length, ⟨rfl, rfl, rfl, rfl, rfl⟩⟩
    unfold bloR
    rw [if_neg (by omega)]
    cases hb : blsP b mo F F 0 [] with
    | ok x k o =>
      rw [hb] at h2
      obtain ⟨rfl, _⟩ := h2
      exact absurd rfl he
    | err e =>
      rw [hb] at h2
      rw [h2.1]

end

theorem flatT : ∀ (L : List Blk), idsL (L.map bkT) = [] ∧ tagsL (L.map bkT) = []
  | [] => ⟨rfl, rfl⟩
  | x :: L => by
    obtain ⟨h1, h2⟩ := flatT L
    exact ⟨by simp [idsL, h1, bkT, bkR, ids], by simp [tagsL, h2, bkT, bkR, tags]⟩

theorem blo_ev {F : Nat} {H : AM.Heap} {a : AV} {b : List UInt8} {mo : Int} (ha : payOf H a = some (.pb b)) (hb : b.length ≤ 100000) (hm : mo ≤ 1000000) (hm0 : 0 ≤ mo) (hF : 8 * b.length < F) (hF2 : F ≤ 1000000) :
    ∃ H' L e τ ob, bloR F b mo = (L, e) ∧ evT X 10 [a, .int .i64 mo] H = some (.tup [.sl H.length 0 L.length 0, .int .i64 e], H') ∧ H'[H.length]? = some (some ob) ∧ RwT (.pr 4 (L.map bkT)) 0 τ ob ∧ H.length ≤ H'.length ∧ ∀ j, j < H.length → j ∉ slO a → H'[j]? = H[j]? := by
  have hl : lendArgs X 10 H 0 [a, .int .i64 mo] = some ([.ro (payC H a) (.pb b) 1, .int .i64 mo], [⟨slO a, [payG H a]⟩, ⟨[], []⟩]) := by
    have h1 := lend_payG (k := 1) ha
    have hr : X.rw 10 0 = false := rfl
    have e2 : lendArgs X 10 H 1 [.int .i64 mo] = some ([.int .i64 mo], [⟨[], []⟩]) := rfl
    rw [lendArgs]
    simp only [hr, Nat.zero_add, h1, e2]
    exact fun _ _ _ _ h => by cases h
  obtain ⟨code, hc, ⟨out, ⟨ho, L, e, o, g, τ, ob, h1, h2, h3, hτ, h4, hw⟩, hrun⟩⟩ := blo_code (m := 0) (c := payC H a) (b := b) hb hm hm0 hF hF2
  have hres : resultsV X out.fr out.H (Try.f10.results.toList) = some [.sl o 0 L.length g, .int .i64 e] := by
    show resultsV X out.fr out.H [.tmp 4, .tmp 5] = _
    simp [resultsV, h2, h3]
  obtain ⟨f1, f2⟩ := flatT L
  obtain ⟨H', τ', ob', q1, q2, q3, q4, q5, q6⟩ := Ev1.newT (C := X) (evT_below X) (tg0 := payG H a) (bo := slO a) (n := L.length) (p := .pr 4 (L.map bkT)) (rest := [.int .i64 e]) Try.func10 hc hl rfl rfl (by simp [gtag]) rfl rfl rfl (by simp [ids, f1]) (by simp [tags, f2]) (by simp) (by
    rw [par10]
    exact ⟨out, ⟨ho, o, g, τ, ob, hτ, hres, h4, hw⟩, hrun⟩)
  exact ⟨H', L, e, τ', ob', h1, evT_eq q1, q2, q3, by omega, q6⟩

end Go.Proofs.Ytdjjekeaeoajpaa

/- lives; SameBytes. -/
namespace Go.Proofs.Ytdjjekeaeoajpaa
open Go.AM
set_option linter.unusedSimpArgs false
set_option linter.unusedVariables false

set_option maxRecDepth 100000 in
theorem inf_a : infR 100 [75, 132, 0, 0] 100 = ([97, 97, 97, 97, 97, 97, 97], 4, 0) := by kernel_rfl
set_option maxRecDepth 100000 in
theorem inf_b : infR 100 [1, 2, 0, 253, 255, 97, 98] 100 = ([97, 98], 7, 0) := by kernel_rfl
theorem bs_a (H : AM.Heap) : buildSliceV X H 22 4 [(0, .int .u8 75), (1, .int .u8 132), (2, .int .u8 0), (3, .int .u8 0)] = some (.ro 1 (.pb [75, 132, 0, 0]) 0, H) := by kernel_rfl
theorem bs_b (H : AM.Heap) : buildSliceV X H 22 7 [(0, .int .u8 1), (1, .int .u8 2), (2, .int .u8 0), (3, .int .u8 253), (4, .int .u8 255), (5, .int .u8 97), (6, .int .u8 98)] = some (.ro 1 (.pb [1, 2, 0, 253, 255, 97, 98]) 0, H) := by kernel_rfl

theorem BytV.sl {H : AM.Heap} {v : AV} {l : List UInt8} (h : BytV H v l) (hl : l ≠ []) : ∃ o g τ ob, v = .sl o 0 l.length g ∧ H[o]? = some (some ob) ∧ RwT (.pb l) g τ ob := h.elim id fun h => absurd h.1 hl

set_option maxRecDepth 100000 in
theorem lives_code : ∃ code, Try.f8.body = some code ∧ Tells (Rets fun fr H => resultsV X fr H Try.f8.results.toList = some [.bool true]) X (evT X) 8 0 code [] [] := by
  refine ⟨_, rfl, ?_⟩
  apply Tells.seq (fr' := []) (H' := [])
  · (refine ⟨0, ?_⟩; simp (maxSteps := 2000000) -implicitDefEqProofs [-getElem?_pos, List.getElem?_cons_zero, List.getElem?_cons_succ, go_sem, eqV, plen, loadV, storeV])
  obtain ⟨H1, l1, n1, e1, v1, q1, q2, q3, q4, q5⟩ := inflate_ev (F := 100) (H := []) (a := .ro 1 (.pb [75, 132, 0, 0]) 0) (mo := 100) rfl (by simp) (by omega) (by omega) (by simp) (by omega)
  rw [inf_a] at q1
  obtain ⟨rfl, rfl, rfl⟩ : [97, 97, 97, 97, 97, 97, 97] = l1 ∧ 4 = n1 ∧ 0 = e1 := by simpa using q1
  obtain ⟨o1, g1, τ1, ob1, rfl, h1, w1⟩ := q3.sl (by simp)
  apply Tells.seq (fr' := [(1, .sl o1 0 7 g1), (2, .int .i64 4), (3, .int .i64 0)]) (H' := H1)
  · simp only [List.length_cons, List.length_nil] at q2
    (refine ⟨0, ?_⟩; simp (maxSteps := 2000000) -implicitDefEqProofs [-getElem?_pos, List.getElem?_cons_zero, List.getElem?_cons_succ, go_sem, eqV, plen, loadV, storeV, bs_a, q2, assignV])
  obtain ⟨H2, l2, n2, e2, v2, k1, k2, k3, k4, k5⟩ := inflate_ev (F := 100) (H := H1) (a := .ro 1 (.pb [1, 2, 0, 253, 255, 97, 98]) 0) (mo := 100) rfl (by simp) (by omega) (by omega) (by simp) (by omega)
  rw [inf_b] at k1
  obtain ⟨rfl, rfl, rfl⟩ : [97, 98] = l2 ∧ 7 = n2 ∧ 0 = e2 := by simpa using k1
  obtain ⟨o2, g2, τ2, ob2, rfl, h2, w2⟩ := k3.sl (by simp)
  apply Tells.seq (fr' := [(1, .sl o1 0 7 g1), (2, .int .i64 4), (3, .int .i64 0), (4, .sl o2 0 2 g2), (5, .int .i64 7), (6, .int .i64 0)]) (H' := H2)
  · simp only [List.length_cons, List.length_nil] at k2
    (refine ⟨0, ?_⟩; simp (maxSteps := 2000000) -implicitDefEqProofs [-getElem?_pos, List.getElem?_cons_zero, List.getElem?_cons_succ, go_sem, eqV, plen, loadV, storeV, bs_b, k2, assignV])
  rw [← k5 o1 (ltAt h1) (by simp [slO])] at h1
  refine Tells.of (o := ⟨.ret, [(0, .bool true)], H2⟩) ?_ ⟨rfl, rfl⟩
  refine ⟨0, ?_⟩
  have a1 := w1.p; have a2 := w1.g; have a3 := w1.ids
  have b1 := w2.p; have b2 := w2.g; have b3 := w2.ids
  simp (maxSteps := 2000000) -implicitDefEqProofs [-getElem?_pos, List.getElem?_cons_zero, List.getElem?_cons_succ, go_sem, eqV, plen, loadV, storeV, h1, h2, a1, a2, a3, b1, b2, b3, readSl, strOp, psub]

theorem lives_ev (H : AM.Heap) : evT X 8 [] H = some (.bool true, H) := by
  obtain ⟨code, hc, ht⟩ := lives_code
  exact evT_eq (Ev1.toldP (l := [.bool true]) (evT_below X) Try.func8 hc rfl rfl (by simp [gtag]) rfl rfl rfl ht)

end Go.Proofs.Ytdjjekeaeoajpaa

/- Plain: what is told of a stream's blocks. -/
namespace Go.Proofs.Ytdjjekeaeoajpaa
open Go.AM
set_option linter.unusedSimpArgs false
set_option linter.unusedVariables false

section
variable {b : List UInt8} {mo : Int} {F : Nat}

theorem blk_more {k k1 : Nat} {x : Blk} {o o1 : List UInt8} (h : blkP b mo F k o = .ok x k1 o1) (hk : k ≤ 8 * b.length) : x.k = k ∧ 0 ≤ x.kind ∧ x.kind ≤ 2 ∧ k < k1 ∧ k1 ≤ 8 * b.length ∧ o1.length = o.length + x.n := by
  have h3 := blk_ok h hk
  have hu := (loc_blk F).up b mo _ _ _ _ _ h hk
  unfold blkP at h
  obtain ⟨l, k2, o2, h1, h2⟩ := pbnd_ok h
  obtain ⟨t, k3, o3, h4, h5⟩ := pbnd_ok h2
  obtain ⟨u, k4, o4, h6, h7⟩ := pbnd_ok h5
  have u1 := (loc_fld 1).up b mo _ _ _ _ _ h1 hk
  have u2 := (loc_fld 2).up b mo _ _ _ _ _ h4 u1.2.1
  injection h7 with e1 e2 e3
  subst e1 e2 e3
  have hkind : 0 ≤ t ∧ t ≤ 2 := by
    unfold kndP at h6
    split at h6
    · omega
    · split at h6
      · omega
      · split at h6
        · omega
        · cases h6
  obtain ⟨y, hy⟩ := hu.2.2.1
  refine ⟨rfl, hkind.1, hkind.2, by omega, hu.2.1, ?_⟩
  simp only
  rw [hy]
  simp

theorem bls_ne {k k1 : Nat} {L : List Blk} {o o1 : List UInt8} : ∀ {f : Nat}, blsP b mo F f k o = .ok L k1 o1 → L ≠ []
  | 0, h => by cases h
  | f + 1, h => by
    unfold blsP at h
    obtain ⟨x, k2, o2, h1, h2⟩ := pbnd_ok h
    split at h2
    · obtain ⟨rfl, _⟩ := res_ok h2
      simp
    · obtain ⟨r, k3, o3, h3, h4⟩ := pbnd_ok h2
      obtain ⟨rfl, _⟩ := res_ok h4
      simp

def sumB (L : List Blk) : Nat := (L.map fun x => x.n).foldr (· + ·) 0

theorem bls_at : ∀ {f : Nat} {k k1 : Nat} {L : List Blk} {o o1 : List UInt8}, blsP b mo F f k o = .ok L k1 o1 → k ≤ 8 * b.length → k1 ≤ 8 * b.length ∧ o1.length = o.length + sumB L ∧
    ∀ (i : Nat) (x : Blk), L[i]? = some x → x.last = decide (i + 1 = L.length) ∧ 0 ≤ x.kind ∧ x.kind ≤ 2 ∧ (i = 0 → x.k = k) ∧ (∀ y, 0 < i → L[i - 1]? = some y → y.k < x.k) ∧ x.k < k1
  | 0, _, _, _, _, _, h, _ => by cases h
  | f + 1, k, k1, L, o, o1, h, hk => by
    unfold blsP at h
    obtain ⟨x, k2, o2, h1, h2⟩ := pbnd_ok h
    obtain ⟨a1, a2, a3, a4, a5, a6⟩ := blk_more h1 hk
    split at h2
    · rename_i hl
      obtain ⟨rfl, rfl, rfl⟩ := res_ok h2
      refine ⟨a5, by simp [sumB, a6], ?_⟩
      intro i y hy
      cases i with
      | zero =>
        simp at hy
        subst hy
        exact ⟨by simp [hl], a2, a3, fun _ => a1, fun _ h => by omega, by omega⟩
      | succ i => simp at hy
    · rename_i hl
      obtain ⟨r, k3, o3, h3, h4⟩ := pbnd_ok h2
      obtain ⟨rfl, rfl, rfl⟩ := res_ok h4
      have hne := bls_ne h3
      obtain ⟨b1, b2, b3⟩ := bls_at h3 a5
      have hmono : k2 ≤ k3 := by
        cases r with
        | nil => exact absurd rfl hne
        | cons y r' =>
          have := b3 0 y rfl
          have h4 := this.2.2.2.1 rfl
          omega
      refine ⟨b1, by simp only [sumB, List.map_cons, List.foldr_cons] at b2 ⊢; omega, ?_⟩
      intro i y hy
      cases i with
      | zero =>
        simp at hy
        subst hy
        refine ⟨?_, a2, a3, fun _ => a1, fun _ h => by omega, by omega⟩
        cases r with
        | nil => exact absurd rfl hne
        | cons y r' => simpa using hl
      | succ i =>
        rw [List.getElem?_cons_succ] at hy
        obtain ⟨c1, c2, c3, c4, c5, c6⟩ := b3 i y hy
        refine ⟨by rw [c1]; simp, c2, c3, fun h => by omega, ?_, c6⟩
        intro z _ hz
        cases i with
        | zero =>
          simp at hz
          subst hz
          have := c4 rfl
          omega
        | succ i => exact c5 z (by omega) (by simpa using hz)

theorem bls_nz (hb : b.length ≤ 100000) (hm : mo ≤ 1000000) (hm0 : 0 ≤ mo) (hF : 8 * b.length < F) (hF2 : F ≤ 1000000) {e : Int} (h : blsP b mo F F 0 [] = .err e) : e ≠ 0 := by
  have hV : IrV 1 b mo 0 [some (irBx 1 b mo ⟨0, [], 0⟩ (.ro 0 .pn 0) 0 0)] 0 none ⟨0, [], 0⟩ := ⟨⟨_, 0, 0, .inl rfl, .inl rfl, rfl, rfl, 0, .inl rfl, rfl⟩, fun a h => by cases h⟩
  obtain ⟨_, _, s1, _, _, _, _, _, _, _, _, hrun, _⟩ := blocks_ev (F := F) hV ⟨by simp, by simpa using hm0⟩ hb hm rfl hF hF2
  have h2 := hrun.2
  simp only [if_true] at h2
  rw [h] at h2
  exact h2.2

/-- how both functions tell of the same stream -/
theorem blo_inf {out : List UInt8} {n e e2 : Int} {L : List Blk} (hb : b.length ≤ 100000) (hm1 : mo ≤ 1000000) (hm : 0 ≤ mo) (hF : 8 * b.length < F) (hF2 : F ≤ 1000000) (h : infR F b mo = (out, n, e)) (h2 : bloR F b mo = (L, e2)) : e = e2 ∧ (e ≠ 0 → L = []) ∧ (e = 0 → ∃ k : Nat, blsP b mo F F 0 [] = .ok L k out ∧ n = ((k + 7) / 8 : Nat)) := by
  unfold infR at h
  unfold bloR at h2
  rw [if_neg (by omega)] at h h2
  cases hbl : blsP b mo F F 0 [] with
  | ok l k o =>
    rw [hbl] at h h2
    simp only [Prod.mk.injEq] at h h2
    obtain ⟨rfl, rfl, rfl⟩ := h
    obtain ⟨rfl, rfl⟩ := h2
    exact ⟨rfl, fun h => absurd rfl h, fun _ => ⟨k, rfl, rfl⟩⟩
  | err x =>
    rw [hbl] at h h2
    simp only [Prod.mk.injEq] at h h2
    obtain ⟨rfl, rfl, rfl⟩ := h
    obtain ⟨rfl, rfl⟩ := h2
    exact ⟨rfl, fun _ => rfl, fun h0 => absurd h0 (bls_nz hb hm1 hm hF hF2 hbl)⟩

end

end Go.Proofs.Ytdjjekeaeoajpaa

/- Walks: the law InflateBlocks. -/
namespace Go.Proofs.Ytdjjekeaeoajpaa
open Go.AM
set_option linter.unusedSimpArgs false
set_option linter.unusedVariables false

/-- assigned, bytes of one's own stay so -/
theorem BytV.asg {H : AM.Heap} {v : AV} {l : List UInt8} (h : BytV H v l) : ∃ v' H', assignV X H 22 v = (v', H') ∧ BytV H' v' l ∧ H.length ≤ H'.length ∧ ∀ j, j < H.length → H'[j]? = H[j]? := by
  rcases h with ⟨o, g, τ, ob, rfl, ho, hw⟩ | ⟨rfl, τ, rfl⟩
  · exact ⟨_, H, rfl, .inl ⟨o, g, τ, ob, rfl, ho, hw⟩, Nat.le_refl _, fun _ _ => rfl⟩
  · by_cases h0 : τ = 0
    · subst h0
      refine ⟨.sl H.length 0 0 0, H ++ [some (⟨.pb [], 0, none, 0, true, false, 0⟩ : AM.Obj)], ?_, .inl ⟨H.length, 0, 0, ⟨.pb [], 0, none, 0, true, false, 0⟩, rfl, by simp, ⟨rfl, rfl, rfl, rfl, rfl⟩⟩, by simp, fun j hj => List.getElem?_append_left hj⟩
      simp [assignV, rowOf, emB]
    · refine ⟨.ro 0 .pn τ, H, ?_, .inr ⟨rfl, τ, rfl⟩, Nat.le_refl _, fun _ _ => rfl⟩
      simp [assignV, h0]

theorem BytV.keep {H H' : AM.Heap} {v : AV} {l : List UInt8} (h : BytV H v l) (hk : ∀ j, j < H.length → H'[j]? = H[j]?) : BytV H' v l := by
  rcases h with ⟨o, g, τ, ob, rfl, ho, hw⟩ | h
  · exact .inl ⟨o, g, τ, ob, rfl, by rw [hk o (ltAt ho)]; exact ho, hw⟩
  · exact .inr h

theorem asgI (H : AM.Heap) (t : Nat) (k : IntKind) (n : Int) : assignV X H t (.int k n) = (.int k n, H) := rfl
theorem asgS (H : AM.Heap) (t o i l g : Nat) : assignV X H t (.sl o i l g) = (.sl o i l g, H) := rfl
theorem asgB (H : AM.Heap) (t : Nat) (d : Bool) : assignV X H t (.bool d) = (.bool d, H) := rfl

theorem sumB_app : ∀ (L M : List Blk), sumB (L ++ M) = sumB L + sumB M
  | [], M => by simp [sumB]
  | x :: L, M => by
    have := sumB_app L M
    simp only [sumB, List.cons_append, List.map_cons, List.foldr_cons] at this ⊢
    omega
theorem sumB_take {L : List Blk} {i : Nat} {x : Blk} (h : L[i]? = some x) : sumB (L.take (i + 1)) = sumB (L.take i) + x.n := by
  rw [List.take_add_one, h, sumB_app]
  simp [sumB]
theorem sumB_le (L : List Blk) (i : Nat) : sumB (L.take i) ≤ sumB L := by
  have h1 := sumB_app (L.take i) (L.drop i)
  rw [List.take_append_drop] at h1
  omega

theorem bls_len {b : List UInt8} {mo : Int} {F : Nat} : ∀ {f : Nat} {k k1 : Nat} {L : List Blk} {o o1 : List UInt8}, blsP b mo F f k o = .ok L k1 o1 → L.length ≤ f
  | 0, _, _, _, _, _, h => by cases h
  | f + 1, k, k1, L, o, o1, h => by
    unfold blsP at h
    obtain ⟨x, k2, o2, h1, h2⟩ := pbnd_ok h
    split at h2
    · obtain ⟨rfl, _⟩ := res_ok h2
      simp
    · obtain ⟨r, k3, o3, h3, h4⟩ := pbnd_ok h2
      obtain ⟨rfl, _⟩ := res_ok h4
      have := bls_len h3
      simp
      omega

def ibFr (v : AV) (n : Int) (o N s i : Nat) : AM.Frame := [(3, v), (4, .int .i64 n), (6, .sl o 0 N 0), (8, .int .i64 (s : Nat)), (9, .int .i64 (i : Nat))]

section
variable {v : AV} {o6 τ : Nat} {ob : AM.Obj} {L : List Blk} {H : AM.Heap} {n : Int}

set_option maxHeartbeats 1000000 in
set_option maxRecDepth 100000 in
theorem ib_15 {m i k : Nat} {x : Blk} {s : Nat} (k3 : H[o6]? = some (some ob)) (k4 : RwT (.pr 4 (L.map bkT)) 0 τ ob) (hx : L[i]? = some x) (hL : L.length ≤ 1000000) (h1 : x.last = decide (i + 1 = L.length)) (h2 : 0 ≤ x.kind) (h3 : x.kind ≤ 2) (h4 : i = 0 → x.k = 0) (h5 : ∀ y, 0 < i → L[i - 1]? = some y → y.k < x.k) (h6 : x.k < k) (hk : k ≤ 1000000) (hn : n = ((k + 7) / 8 : Nat)) :
    ∃ code, ((Try.f5.body).bind (codeAt [1, 1, 1, 1, 1, 1, 1, 1, 0, 1, 0, 0, 1, 0, 0, 0, 0])) = some code ∧ Run X (evT X) 5 m code (ibFr v n o6 L.length s i ++ [(37, .bool true)]) H ⟨.normal, ibFr v n o6 L.length s i ++ [(114, .bool false)], H⟩ := by
  refine ⟨_, rfl, ?_⟩
  have hil : i < L.length := ltAt hx
  have q1 := k4.p; have q2 := k4.g; have q4 := k4.ids; have q5 := k4.tg
  have hx' : (L.map bkT)[i]? = some (bkT x) := by rw [List.getElem?_map, hx]; rfl
  have w1 : IntKind.i64.wrap ((L.length : Int) - 1) = ((L.length - 1 : Nat) : Int) := by rw [wrap_i64 (by omega) (by omega)]; omega
  have wz : IntKind.i64.wrap 0 = 0 := wrap_i64 (by omega) (by omega)
  have w8 : IntKind.i64.wrap (8 * n) = 8 * n := by rw [hn, wrap_i64 (by omega) (by omega)]
  have hk1 : ¬ x.kind < 0 := by omega
  have hk2 : ¬ 2 < x.kind := by omega
  have hk3 : ¬ ((x.n : Nat) : Int) < 0 := by omega
  have hk4 : ¬ 8 * n ≤ (x.k : Int) := by omega
  have hll : (L.map bkT).length = L.length := by simp
  have hilI : (i : Int) < (L.length : Int) := by omega
  simp only [ibFr, bkT, bkR] at hx' ⊢
  have hrow : ∀ y : Blk, 0 < i → L[i - 1]? = some y → (L.map bkT)[i - 1]? = some (.pc [.int .i64 y.kind, .bool y.last, .int .i64 (y.k : Nat), .int .i64 (y.n : Nat)]) := by
    intro y _ hy
    rw [List.getElem?_map, hy]
    rfl
  generalize hR : L.map bkT = R at *
  by_cases hi0 : i = 0
  · subst hi0
    have hz := h4 rfl
    rw [hz] at hx' hk4
    by_cases hN : L.length = 1
    · have hl : x.last = true := by rw [h1]; simp [hN]
      rw [hl] at hx'
      rw [hN] at hilI w1 hll hil ⊢
      (refine ⟨0, ?_⟩; simp (maxSteps := 2000000) -implicitDefEqProofs [-getElem?_pos, List.getElem?_cons_zero, List.getElem?_cons_succ, go_sem, eqV, plen, loadV, storeV, retag, wz, k3, q1, q2, q4, q5, hx', hk1, hk2, hk3, hk4, w8, hll])
      omega
    · have hl : x.last = false := by rw [h1]; simp; omega
      rw [hl] at hx'
      have hne : ¬ ((0 : Int) = ((L.length - 1 : Nat) : Int)) := by omega
      have hne2 : ¬ (((L.length - 1 : Nat) : Int) = 0) := by omega
      have hne3 : ¬ (L.length - 1 = 0) := by omega
      have hne4 : ¬ (0 = L.length - 1) := by omega
      have hne5 : ((0 : Int) == ((L.length - 1 : Nat) : Int)) = false := by simpa using hne
      generalize L.length - 1 = N1 at *
      generalize L.length = N at *
      (refine ⟨0, ?_⟩; simp (maxSteps := 2000000) -implicitDefEqProofs [-getElem?_pos, List.getElem?_cons_zero, List.getElem?_cons_succ, go_sem, eqV, plen, loadV, storeV, retag, k3, q1, q2, q4, q5, hx', hk1, hk2, hk3, hk4, w1, w8, hll, hilI, hil, hne, hne2, hne3, hne4, hne5])
      omega
  · obtain ⟨y, hy⟩ : ∃ y, L[i - 1]? = some y := ⟨_, List.getElem?_eq_getElem (by omega)⟩
    have hyk := h5 y (by omega) hy
    have hyr := hrow y (by omega) hy
    have hykI : ¬ (x.k : Int) ≤ (y.k : Int) := by omega
    have hiI : ¬ (i : Int) = 0 := by omega
    have hib : ((i : Int) == 0) = false := by simpa using hiI
    have hip : (0 : Int) < (i : Int) := by omega
    have hipN : 0 < i := by omega
    have hykN : ¬ x.k ≤ y.k := by omega
    have wi : IntKind.i64.wrap ((i : Int) - 1) = ((i - 1 : Nat) : Int) := by rw [wrap_i64 (by omega) (by omega)]; omega
    have hi1 : ((i - 1 : Nat) : Int) < (L.length : Int) := by omega
    have hi1N : i - 1 < L.length := by omega
    by_cases hN : i + 1 = L.length
    · have hl : x.last = true := by rw [h1]; simp [hN]
      rw [hl] at hx'
      have he : L.length - 1 = i := by omega
      rw [he] at w1
      generalize L.length = N at *
      generalize i - 1 = i1 at *
      (refine ⟨0, ?_⟩; simp (maxSteps := 2000000) -implicitDefEqProofs [-getElem?_pos, List.getElem?_cons_zero, List.getElem?_cons_succ, go_sem, eqV, plen, loadV, storeV, retag, k3, q1, q2, q4, q5, hx', hyr, hk1, hk2, hk3, hk4, hykI, hiI, hi0, hib, hip, hipN, hykN, wi, w1, w8, hll, hilI, hil, hi1, hi1N])
    · have hl : x.last = false := by rw [h1]; simp; omega
      rw [hl] at hx'
      have hne : ¬ ((i : Int) = ((L.length - 1 : Nat) : Int)) := by omega
      have hne3 : ¬ (i = L.length - 1) := by omega
      have hne5 : ((i : Int) == ((L.length - 1 : Nat) : Int)) = false := by simpa using hne
      generalize L.length - 1 = N1 at *
      generalize L.length = N at *
      generalize i - 1 = i1 at *
      (refine ⟨0, ?_⟩; simp (maxSteps := 2000000) -implicitDefEqProofs [-getElem?_pos, List.getElem?_cons_zero, List.getElem?_cons_succ, go_sem, eqV, plen, loadV, storeV, retag, k3, q1, q2, q4, q5, hx', hyr, hk1, hk2, hk3, hk4, hykI, hiI, hi0, hib, hip, hipN, hykN, wi, w1, w8, hll, hilI, hil, hi1, hi1N, hne, hne3, hne5])

end

section
variable (c : Nat) (b : List UInt8)

set_option maxRecDepth 100000 in
theorem blocks_law : ∃ code, Try.f5.body = some code ∧
    Tells (Rets fun fr H => getF fr 2 = .bool true) X (evT X) 5 0 code [(0, .ro c (.pb b) 1)] [] := by
  refine ⟨_, rfl, ?_⟩
  have hL := lives_ev []
  apply Tells.seq (fr' := [(0, .ro c (.pb b) 1)]) (H' := [])
  · (refine ⟨0, ?_⟩; simp (maxSteps := 2000000) -implicitDefEqProofs [-getElem?_pos, List.getElem?_cons_zero, List.getElem?_cons_succ, go_sem, eqV, plen, loadV, storeV])
  apply Tells.assoc
  apply Tells.seq (fr' := [(0, .ro c (.pb b) 1), (11, .bool false)]) (H' := [])
  · (refine ⟨0, ?_⟩; simp (maxSteps := 2000000) -implicitDefEqProofs [-getElem?_pos, List.getElem?_cons_zero, List.getElem?_cons_succ, go_sem, eqV, plen, loadV, storeV, hL])
  apply Tells.seq (fr' := [(0, .ro c (.pb b) 1), (11, .bool false)]) (H' := [])
  · refine ⟨0, ?_⟩
    simp (maxSteps := 2000000) -implicitDefEqProofs [-getElem?_pos, List.getElem?_cons_zero, List.getElem?_cons_succ, go_sem, eqV, plen, loadV, storeV]
  by_cases hb : (3000 : Int) < (b.length : Int)
  · refine Tells.of (o := ⟨.ret, [(2, .bool true)], []⟩) ⟨0, ?_⟩ ⟨rfl, rfl⟩
    simp (maxSteps := 2000000) -implicitDefEqProofs [-getElem?_pos, List.getElem?_cons_zero, List.getElem?_cons_succ, go_sem, eqV, plen, loadV, storeV, hb]
  have hbl : b.length ≤ 3000 := by omega
  apply Tells.assoc
  apply Tells.seq (fr' := [(0, .ro c (.pb b) 1), (14, .bool false)]) (H' := [])
  · (refine ⟨0, ?_⟩; simp (maxSteps := 2000000) -implicitDefEqProofs [-getElem?_pos, List.getElem?_cons_zero, List.getElem?_cons_succ, go_sem, eqV, plen, loadV, storeV, hb])
  apply Tells.seq (fr' := [(0, .ro c (.pb b) 1), (14, .bool false)]) (H' := [])
  · refine ⟨0, ?_⟩
    simp (maxSteps := 2000000) -implicitDefEqProofs [-getElem?_pos, List.getElem?_cons_zero, List.getElem?_cons_succ, go_sem, eqV, plen, loadV, storeV]
  obtain ⟨H1, out, n, e, v0, hI, q2, q3, q4, q5⟩ := inflate_ev (F := 30000) (H := []) (a := .ro c (.pb b) 1) (mo := 20000) rfl (by omega) (by omega) (by omega) (by omega) (by omega)
  obtain ⟨v, H1', hA, hv, hle, hkp⟩ := q3.asg
  apply Tells.seq (fr' := [(0, .ro c (.pb b) 1), (3, v), (4, .int .i64 n), (5, .int .i64 e)]) (H' := H1')
  · have hA' := hA
    simp only [assignV, und22] at hA'
    (refine ⟨0, ?_⟩; simp (maxSteps := 2000000) -implicitDefEqProofs [-getElem?_pos, List.getElem?_cons_zero, List.getElem?_cons_succ, go_sem, eqV, plen, loadV, storeV, q2, hA', asgI])
  obtain ⟨H2, L, e2, τ, ob, k1, k2, k3, k4, k5, k6⟩ := blo_ev (F := 30000) (H := H1') (a := .ro c (.pb b) 1) (mo := 20000) rfl (by omega) (by omega) (by omega) (by omega) (by omega)
  have hv2 : BytV H2 v out := hv.keep fun j hj => k6 j hj (by simp [slO])
  obtain ⟨rfl, hne, hok⟩ := blo_inf (by omega) (by omega) (by omega) (by omega) (by omega) hI k1
  generalize H1'.length = o6 at *
  apply Tells.seq (fr' := [(3, v), (4, .int .i64 n), (5, .int .i64 e), (6, .sl o6 0 L.length 0), (7, .int .i64 e)]) (H' := H2)
  · generalize L.length = N at *
    (refine ⟨0, ?_⟩; simp (maxSteps := 2000000) -implicitDefEqProofs [-getElem?_pos, List.getElem?_cons_zero, List.getElem?_cons_succ, go_sem, eqV, plen, loadV, storeV, k2, asgI, asgS])
  clear hA k6 q2 q5 k2
  apply Tells.assoc
  apply Tells.seq (fr' := [(3, v), (4, .int .i64 n), (5, .int .i64 e), (6, .sl o6 0 L.length 0), (28, .bool false)]) (H' := H2)
  · generalize L.length = N at *
    (refine ⟨0, ?_⟩; simp (maxSteps := 2000000) -implicitDefEqProofs [-getElem?_pos, List.getElem?_cons_zero, List.getElem?_cons_succ, go_sem, eqV, plen, loadV, storeV])
  apply Tells.seq (fr' := [(3, v), (4, .int .i64 n), (5, .int .i64 e), (6, .sl o6 0 L.length 0), (28, .bool false)]) (H' := H2)
  · refine ⟨0, ?_⟩
    simp (maxSteps := 2000000) -implicitDefEqProofs [-getElem?_pos, List.getElem?_cons_zero, List.getElem?_cons_succ, go_sem, eqV, plen, loadV, storeV]
  apply Tells.assoc
  have hg := k4.g
  by_cases he : ¬ e = 0
  · have heb : (e != 0) = true := by simpa using he
    apply Tells.seq (fr' := [(3, v), (4, .int .i64 n), (6, .sl o6 0 L.length 0), (30, .bool true)]) (H' := H2)
    · generalize L.length = N at *
      (refine ⟨0, ?_⟩; simp (maxSteps := 2000000) -implicitDefEqProofs [-getElem?_pos, List.getElem?_cons_zero, List.getElem?_cons_succ, go_sem, eqV, plen, loadV, storeV, he, heb])
    have hL0 := hne he
    subst hL0
    refine Tells.of (o := ⟨.ret, [(2, .bool true)], H2⟩) ⟨0, ?_⟩ ⟨rfl, rfl⟩
    simp only [List.length_nil]
    simp (maxSteps := 2000000) -implicitDefEqProofs [-getElem?_pos, List.getElem?_cons_zero, List.getElem?_cons_succ, go_sem, eqV, plen, loadV, storeV, k3, hg]
  have he : e = 0 := Classical.not_not.1 he
  subst he
  obtain ⟨k, hbl2, hn⟩ := hok rfl
  obtain ⟨m1, m2, m3⟩ := bls_at hbl2 (by omega)
  apply Tells.seq (fr' := [(3, v), (4, .int .i64 n), (6, .sl o6 0 L.length 0), (30, .bool false)]) (H' := H2)
  · generalize L.length = N at *
    (refine ⟨0, ?_⟩; simp (maxSteps := 2000000) -implicitDefEqProofs [-getElem?_pos, List.getElem?_cons_zero, List.getElem?_cons_succ, go_sem, eqV, plen, loadV, storeV])
  apply Tells.seq (fr' := [(3, v), (4, .int .i64 n), (6, .sl o6 0 L.length 0), (30, .bool false)]) (H' := H2)
  · refine ⟨0, ?_⟩
    simp (maxSteps := 2000000) -implicitDefEqProofs [-getElem?_pos, List.getElem?_cons_zero, List.getElem?_cons_succ, go_sem, eqV, plen, loadV, storeV]
  have hmo : out.length ≤ 20000 := by
    have := ((loc_bls 30000 30000).up b 20000 0 [] _ _ _ hbl2 (by omega)).2.2.2 (by simp)
    omega
  have hL6 : L.length ≤ 1000000 := by
    have := bls_len hbl2
    omega
  have hLne := bls_ne hbl2
  apply Tells.seq (fr' := [(3, v), (4, .int .i64 n), (6, .sl o6 0 L.length 0), (8, .int .i64 0)]) (H' := H2)
  · generalize L.length = N at *
    (refine ⟨0, ?_⟩; simp (maxSteps := 2000000) -implicitDefEqProofs [-getElem?_pos, List.getElem?_cons_zero, List.getElem?_cons_succ, go_sem, eqV, plen, loadV, storeV, asgI])
  have hsum : sumB L = out.length := by simpa using m2.symm
  apply Tells.andThen (P := fun fr H => fr = ibFr v n o6 L.length (sumB L) L.length ++ [(37, .bool false)] ∧ H = H2)
  · apply Tells.seq (fr' := ibFr v n o6 L.length 0 0) (H' := H2)
    · generalize L.length = N at *
      simp only [ibFr]
      (refine ⟨0, ?_⟩; simp (maxSteps := 2000000) -implicitDefEqProofs [-getElem?_pos, List.getElem?_cons_zero, List.getElem?_cons_succ, go_sem, eqV, plen, loadV, storeV, asgI])
    apply Tells.block
    refine Tells.loop (σ := Nat) (fun i => i ≤ L.length) (fun i => ibFr v n o6 L.length (sumB (L.take i)) i) (fun _ => H2) (fun i => L.length - i) ?_ 0 (by omega)
    intro i hi
    by_cases hib : i = L.length
    · right
      refine ⟨⟨.exit 0, ibFr v n o6 L.length (sumB (L.take i)) i ++ [(37, .bool false)], H2⟩, ⟨rfl, ?_⟩, by simp, ?_⟩
      · subst hib
        exact ⟨by rw [List.take_length], rfl⟩
      · have hnI : ¬ (i : Int) < (L.length : Int) := by omega
        have hnN : ¬ i < L.length := by omega
        generalize L.length = N at *
        generalize sumB (L.take i) = s0 at *
        simp only [ibFr]
        (refine ⟨0, ?_⟩; simp (maxSteps := 2000000) -implicitDefEqProofs [-getElem?_pos, List.getElem?_cons_zero, List.getElem?_cons_succ, go_sem, eqV, plen, loadV, storeV, k3, hg, hnI, hnN])
    · left
      have hlt : i < L.length := by omega
      obtain ⟨x, hx⟩ : ∃ x, L[i]? = some x := ⟨_, List.getElem?_eq_getElem hlt⟩
      obtain ⟨p1, p2, p3, p4, p5, p6⟩ := m3 i x hx
      have h15 := ib_15 (m := 0) (v := v) (n := n) (s := sumB (L.take i)) k3 k4 hx hL6 p1 p2 p3 p4 p5 p6 (by omega) hn
      have hst := sumB_take hx
      have hsl := sumB_le L (i + 1)
      have hsl' := sumB_le L i
      refine ⟨i + 1, by omega, ?_, by omega⟩
      rw [hst]
      have hltI : (i : Int) < (L.length : Int) := by omega
      have w1 : IntKind.i64.wrap ((i : Int) + 1) = ((i + 1 : Nat) : Int) := by rw [wrap_i64 (by omega) (by omega)]; omega
      have w2 : IntKind.i64.wrap ((sumB (L.take i) : Int) + (x.n : Int)) = ((sumB (L.take i) + x.n : Nat) : Int) := by rw [wrap_i64 (by omega) (by omega)]; omega
      have hx' : (L.map bkT)[i]? = some (bkT x) := by rw [List.getElem?_map, hx]; rfl
      have q1 := k4.p; have q4 := k4.ids
      apply Run.seq (fr' := ibFr v n o6 L.length (sumB (L.take i)) i ++ [(37, .bool true)]) (H' := H2)
      · apply Run.seq (fr' := ibFr v n o6 L.length (sumB (L.take i)) i ++ [(37, .bool true)]) (H' := H2)
        · generalize L.length = N at *
          generalize sumB (L.take i) = s0 at *
          simp only [ibFr]
          (refine ⟨0, ?_⟩; simp (maxSteps := 2000000) -implicitDefEqProofs [-getElem?_pos, List.getElem?_cons_zero, List.getElem?_cons_succ, go_sem, eqV, plen, loadV, storeV, k3, hg, hltI, hlt])
        · refine Run.cond (d := true) (by simp [ibFr, evalO, getF]) ⟨0, rfl⟩
      apply Run.seq (fr' := ibFr v n o6 L.length (sumB (L.take i) + x.n) i) (H' := H2)
      · apply Run.block
        · apply Run.seq (fr' := ibFr v n o6 L.length (sumB (L.take i)) i ++ [(114, .bool false)]) (H' := H2)
          · apply Run.seq (piece h15 _ rfl)
            · refine Run.cond (d := false) (by simp [ibFr, evalO, getF]) ⟨0, rfl⟩
          · simp only [bkT, bkR] at hx'
            generalize L.map bkT = R at *
            generalize sumB (L.take i) + x.n = s1 at *
            generalize L.length = N at *
            generalize sumB (L.take i) = s0 at *
            simp only [ibFr]
            (refine ⟨0, ?_⟩; simp (maxSteps := 2000000) -implicitDefEqProofs [-getElem?_pos, List.getElem?_cons_zero, List.getElem?_cons_succ, go_sem, eqV, plen, loadV, storeV, retag, k3, hg, q1, q4, hx', w2, hltI, hlt])
        · simp
      · generalize L.length = N at *
        generalize sumB (L.take i) + x.n = s1 at *
        simp only [ibFr]
        (refine ⟨0, ?_⟩; simp (maxSteps := 2000000) -implicitDefEqProofs [-getElem?_pos, List.getElem?_cons_zero, List.getElem?_cons_succ, go_sem, eqV, plen, loadV, storeV, w1])
  · rintro fr H ⟨rfl, rfl⟩
    have hlp : 0 < L.length := List.length_pos_iff.2 hLne
    have hlpI : (0 : Int) < (L.length : Int) := by omega
    rw [hsum]
    refine Tells.of (o := ⟨.ret, [(2, .bool true)], H⟩) ?_ ⟨rfl, rfl⟩
    refine ⟨0, ?_⟩
    generalize L.length = N at *
    simp only [ibFr]
    rcases hv2 with ⟨o, g, τ1, ob1, rfl, ho, hw⟩ | ⟨rfl, τ1, rfl⟩
    · have hg1 := hw.g
      generalize out.length = M at *
      simp (maxSteps := 2000000) -implicitDefEqProofs [-getElem?_pos, List.getElem?_cons_zero, List.getElem?_cons_succ, go_sem, eqV, plen, loadV, storeV, k3, hg, ho, hg1, hlpI, hlp]
    · simp only [List.length_nil]
      simp (maxSteps := 2000000) -implicitDefEqProofs [-getElem?_pos, List.getElem?_cons_zero, List.getElem?_cons_succ, go_sem, eqV, plen, loadV, storeV, k3, hg, hlpI, hlp]

end

end Go.Proofs.Ytdjjekeaeoajpaa
