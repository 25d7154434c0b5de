/- DA to DB: texts of this claim, one behind the other; what each shows stands at its head. -/
import Derived.Test.YtifgkkfchnfcaaaDoorMg3
/- Walks: whenText. -/
namespace Go.Proofs.YtifgkkfchnfcaaaDoor
open Go.AM
set_option linter.unusedSimpArgs false
set_option linter.unusedVariables false

theorem catS {x y z : List UInt8} (h : x.length + y.length ≤ 1000) (hz : x ++ y = z) : strOp .add x y = some (.str z) := by
  subst hz
  simp only [strOp]
  rw [if_pos (by omega)]

theorem padB_len {x n : Nat} (hx : x < 10000000000) (hn : n ≤ 8) : (padB x n).length ≤ 20 := by
  unfold padB
  rw [dgs_len]
  have h13 : ndN x ≤ 13 := by
    by_cases h0 : x = 0
    · subst h0
      have : ndN 0 = 1 := by unfold ndN; rfl
      omega
    · have h1 := ndN_le x (by omega)
      by_cases h : ndN x ≤ 13
      · exact h
      · have : (10 : Nat) ^ 13 ≤ 10 ^ (ndN x - 1) := Nat.pow_le_pow_right (by omega) (by omega)
        have : (10 : Nat) ^ 13 = 10000000000000 := by decide
        omega
  omega

theorem padB_len_big {x : Nat} (hx : x < 18446744073709551616) : (padB x 1).length ≤ 20 := by
  unfold padB
  rw [dgs_len]
  have h20 : ndN x ≤ 20 := by
    by_cases h0 : x = 0
    · subst h0
      have : ndN 0 = 1 := by unfold ndN; rfl
      omega
    · have h1 := ndN_le x (by omega)
      by_cases h : ndN x ≤ 20
      · exact h
      · have : (10 : Nat) ^ 20 ≤ 10 ^ (ndN x - 1) := Nat.pow_le_pow_right (by omega) (by omega)
        have : (10 : Nat) ^ 20 = 100000000000000000000 := by decide
        omega
  omega

/-- minute, second, and the rest -/
def ckT (w : Wh) : List UInt8 := 58 :: (padB w.mi.toNat 2 ++ 58 :: (padB w.s.toNat 2 ++ usT w.us.toNat))
/-- a day -/
def dyT (w : Wh) : List UInt8 := padB w.y.toNat 4 ++ 45 :: (padB w.mo.toNat 2 ++ 45 :: padB w.d.toNat 2)
/-- a moment's text, a span's -/
def wtB (w : Wh) (t : Nat) : List UInt8 :=
  if t = 11 then (if w.neg then [45] else []) ++ (padB (24 * w.d.toNat + w.h.toNat) 2 ++ ckT w)
  else if t = 10 then dyT w else dyT w ++ 32 :: (padB w.h.toNat 2 ++ ckT w)

/-- what a fine moment's numbers are -/
structure WOk (w : Wh) : Prop where
  y : 0 ≤ w.y ∧ w.y < 65536
  mo : 0 ≤ w.mo ∧ w.mo < 256
  d : 0 ≤ w.d ∧ w.d < 256
  h : 0 ≤ w.h ∧ w.h < 256
  mi : 0 ≤ w.mi ∧ w.mi < 256
  s : 0 ≤ w.s ∧ w.s < 256
  us : 0 ≤ w.us ∧ w.us < 1000000

theorem usT_len {x : Nat} (h : x < 1000000) : (usT x).length ≤ 21 := by
  unfold usT
  split
  · simp
  · have := padB_len (x := x) (n := 6) (by omega) (by omega)
    simp only [List.length_cons]; omega

section
variable (w : Wh)

set_option maxRecDepth 100000 in
set_option maxHeartbeats 4000000 in
theorem wt_r1 (t : Nat) (hw : WOk w) : ∃ code, ((Tryd.f29.body).bind (codeAt [1, 0])) = some code ∧ Run X (evT X) 29 0 code [(1, .int .u8 (t : Nat)), (2, .ptr 0 0 0 0)] [some (whO w)] ⟨.normal, [(1, .int .u8 (t : Nat)), (2, .ptr 0 0 0 0), (5, .str (ckT w))], [some (whO w)]⟩ := by
  refine ⟨_, rfl, ?_⟩
  obtain ⟨m, hm⟩ : ∃ m : Nat, w.mi = (m : Int) := ⟨w.mi.toNat, by have := hw.mi; omega⟩
  obtain ⟨s, hs⟩ : ∃ m : Nat, w.s = (m : Int) := ⟨w.s.toNat, by have := hw.s; omega⟩
  obtain ⟨u, hu⟩ : ∃ m : Nat, w.us = (m : Int) := ⟨w.us.toNat, by have := hw.us; omega⟩
  have b1 := hw.mi; have b2 := hw.s; have b3 := hw.us
  rw [hm] at b1; rw [hs] at b2; rw [hu] at b3
  have e1 := dig_ev (H := [some (whO w)]) (x := m) (n := 2) (by omega) (by omega)
  have e2 := dig_ev (H := [some (whO w)]) (x := s) (n := 2) (by omega) (by omega)
  have e3 := mic_ev (H := [some (whO w)]) (x := u) (by omega)
  have l1 := padB_len (x := m) (n := 2) (by omega) (by omega)
  have l2 := padB_len (x := s) (n := 2) (by omega) (by omega)
  have l3 := usT_len (x := u) (by omega)
  unfold ckT
  rw [hm, hs, hu]
  simp only [Int.toNat_natCast, Int.cast_ofNat_Int] at e1 e2 ⊢
  generalize padB m 2 = A at *
  generalize padB s 2 = B at *
  generalize usT u = D at *
  have c1 : strOp .add [58] A = some (.str (58 :: A)) := catS (by simp; omega) rfl
  have c2 : strOp .add (58 :: A) [58] = some (.str (58 :: (A ++ [58]))) := catS (by simp; omega) rfl
  have c3 : strOp .add (58 :: (A ++ [58])) B = some (.str (58 :: (A ++ 58 :: B))) := catS (by simp; omega) (by simp)
  have c4 : strOp .add (58 :: (A ++ 58 :: B)) D = some (.str (58 :: (A ++ 58 :: (B ++ D)))) := catS (by simp; omega) (by simp)
  apply Run.dy (by simp) keep29_1 (by simp)
  · simp only [whO, Wh.pay, hm, hs, hu] at e1 e2 e3 ⊢
    (conv => lhs; simp (maxSteps := 2000000) -implicitDefEqProofs [-getElem?_pos, List.getElem?_cons_zero, List.getElem?_cons_succ, go_sem, eqV, plen, loadV, storeV, runD, out1, markOf, freeO, quietO, pushes, isAssign, calledV, touched, mentioned, opVals, touchCall, mentionCall, idsAt, Op.operands, ids, idsL, lendArgs, lendV, lend1, lendL, eqH_self, e1, e2, e3, c1, c2, c3, c4, reach_none])
  · kernel_rfl
  · rfl

set_option maxRecDepth 100000 in
set_option maxHeartbeats 4000000 in
theorem wt_r7 (t : Nat) (K : List UInt8) (hw : WOk w) : ∃ code, ((Tryd.f29.body).bind (codeAt [1, 1, 1, 0])) = some code ∧ ∃ tl, Run X (evT X) 29 0 code [(1, .int .u8 (t : Nat)), (2, .ptr 0 0 0 0), (5, .str K), (22, .bool false)] [some (whO w)] ⟨.normal, [(1, .int .u8 (t : Nat)), (2, .ptr 0 0 0 0), (5, .str K), (7, .str (dyT w))] ++ tl, [some (whO w)]⟩ := by
  refine ⟨_, rfl, [], ?_⟩
  obtain ⟨y, hy⟩ : ∃ m : Nat, w.y = (m : Int) := ⟨w.y.toNat, by have := hw.y; omega⟩
  obtain ⟨mo, hmo⟩ : ∃ m : Nat, w.mo = (m : Int) := ⟨w.mo.toNat, by have := hw.mo; omega⟩
  obtain ⟨d, hd⟩ : ∃ m : Nat, w.d = (m : Int) := ⟨w.d.toNat, by have := hw.d; omega⟩
  have b1 := hw.y; have b2 := hw.mo; have b3 := hw.d
  rw [hy] at b1; rw [hmo] at b2; rw [hd] at b3
  have e1 := dig_ev (H := [some (whO w)]) (x := y) (n := 4) (by omega) (by omega)
  have e2 := dig_ev (H := [some (whO w)]) (x := mo) (n := 2) (by omega) (by omega)
  have e3 := dig_ev (H := [some (whO w)]) (x := d) (n := 2) (by omega) (by omega)
  have l1 := padB_len (x := y) (n := 4) (by omega) (by omega)
  have l2 := padB_len (x := mo) (n := 2) (by omega) (by omega)
  have l3 := padB_len (x := d) (n := 2) (by omega) (by omega)
  unfold dyT
  rw [hy, hmo, hd]
  simp only [Int.toNat_natCast, Int.cast_ofNat_Int] at e1 e2 e3 ⊢
  generalize padB y 4 = A at *
  generalize padB mo 2 = B at *
  generalize padB d 2 = D at *
  have c1 : strOp .add A [45] = some (.str (A ++ [45])) := catS (by simp; omega) rfl
  have c2 : strOp .add (A ++ [45]) B = some (.str (A ++ 45 :: B)) := catS (by simp; omega) (by simp)
  have c3 : strOp .add (A ++ 45 :: B) [45] = some (.str (A ++ 45 :: (B ++ [45]))) := catS (by simp; omega) (by simp)
  have c4 : strOp .add (A ++ 45 :: (B ++ [45])) D = some (.str (A ++ 45 :: (B ++ 45 :: D))) := catS (by simp; omega) (by simp)
  apply Run.dy (by simp) keep29_7 (by simp)
  · simp only [whO, Wh.pay, hy, hmo, hd] at e1 e2 e3 ⊢
    (conv => lhs; simp (maxSteps := 2000000) -implicitDefEqProofs [-getElem?_pos, List.getElem?_cons_zero, List.getElem?_cons_succ, go_sem, eqV, plen, loadV, storeV, runD, out1, markOf, freeO, quietO, pushes, isAssign, calledV, touched, mentioned, opVals, touchCall, mentionCall, idsAt, Op.operands, ids, idsL, lendArgs, lendV, lend1, lendL, eqH_self, e1, e2, e3, c1, c2, c3, c4, reach_none])
  · kernel_rfl
  · rfl

set_option maxRecDepth 100000 in
set_option maxHeartbeats 4000000 in
theorem wt_code (t : Nat) (ht : t < 256) (hw : WOk w) : ∃ code, Tryd.f29.body = some code ∧
    Tells (Rets fun fr H => getF fr 4 = .str (wtB w t)) X (evT X) 29 0 code [(0, .agg w.pay), (1, .int .u8 (t : Nat))] [] := by
  refine ⟨_, rfl, ?_⟩
  apply Tells.seq (fr' := [(1, .int .u8 (t : Nat)), (2, .ptr 0 0 0 0)]) (H' := [some (whO w)])
  · unfold whO
    simp only [Wh.pay]
    (refine ⟨0, ?_⟩; simp (maxSteps := 2000000) -implicitDefEqProofs [-getElem?_pos, List.getElem?_cons_zero, List.getElem?_cons_succ, go_sem, eqV, plen, loadV, storeV])
  apply Tells.seq (piece (wt_r1 w t hw) _ rfl)
  apply Tells.assoc
  have l1 : (ckT w).length ≤ 100 := by
    unfold ckT
    have h1 := hw.mi; have h2 := hw.s; have h3 := hw.us
    have q1 := padB_len (x := w.mi.toNat) (n := 2) (by omega) (by omega)
    have q2 := padB_len (x := w.s.toNat) (n := 2) (by omega) (by omega)
    have q3 := usT_len (x := w.us.toNat) (by omega)
    simp only [List.length_cons, List.length_append]
    omega
  obtain ⟨d, hd⟩ : ∃ m : Nat, w.d = (m : Int) := ⟨w.d.toNat, by have := hw.d; omega⟩
  obtain ⟨h, hh⟩ : ∃ m : Nat, w.h = (m : Int) := ⟨w.h.toNat, by have := hw.h; omega⟩
  have b1 := hw.d; have b2 := hw.h
  rw [hd] at b1; rw [hh] at b2
  by_cases h11 : t = 11
  · subst h11
    have e1 := dig_ev (H := [some (whO w)]) (x := 24 * d + h) (n := 2) (by omega) (by omega)
    have l2 := padB_len (x := 24 * d + h) (n := 2) (by omega) (by omega)
    have w1 : IntKind.i64.wrap (24 * (d : Int)) = 24 * (d : Int) := wrap_i64 (by omega) (by omega)
    have w2 : IntKind.i64.wrap (24 * (d : Int) + (h : Int)) = ((24 * d + h : Nat) : Int) := by rw [wrap_i64 (by omega) (by omega)]; omega
    have hwt : wtB w 11 = (if w.neg then [45] else []) ++ (padB (24 * d + h) 2 ++ ckT w) := by unfold wtB; rw [if_pos rfl, hd, hh]; rfl
    rw [hwt]
    generalize ckT w = K at *
    generalize hz : 24 * d + h = z at *
    generalize padB z 2 = A at *
    simp only [Int.cast_ofNat_Int] at e1
    cases hn : w.neg
    · have c1 : strOp .add [] A = some (.str A) := catS (by simp; omega) (by simp)
      have c2 : strOp .add A K = some (.str (A ++ K)) := catS (by omega) rfl
      refine Tells.of (o := ⟨.ret, [(4, .str (A ++ K))], [some (whO w)]⟩) ⟨0, ?_⟩ ⟨rfl, by simp [getF]⟩
      simp only [whO, Wh.pay, hn, hd, hh] at e1 ⊢
      simp (maxSteps := 2000000) -implicitDefEqProofs [-getElem?_pos, List.getElem?_cons_zero, List.getElem?_cons_succ, go_sem, eqV, plen, loadV, storeV, e1, w1, w2, c1, c2]
    · have c1 : strOp .add [45] A = some (.str (45 :: A)) := catS (by simp; omega) rfl
      have c2 : strOp .add (45 :: A) K = some (.str (45 :: (A ++ K))) := catS (by simp; omega) rfl
      refine Tells.of (o := ⟨.ret, [(4, .str (45 :: (A ++ K)))], [some (whO w)]⟩) ⟨0, ?_⟩ ⟨rfl, by simp [getF]⟩
      simp only [whO, Wh.pay, hn, hd, hh] at e1 ⊢
      simp (maxSteps := 2000000) -implicitDefEqProofs [-getElem?_pos, List.getElem?_cons_zero, List.getElem?_cons_succ, go_sem, eqV, plen, loadV, storeV, e1, w1, w2, c1, c2]
  have t11 : ((t : Int) == 11) = false := by simp; omega
  apply Tells.seq (fr' := [(1, .int .u8 (t : Nat)), (2, .ptr 0 0 0 0), (5, .str (ckT w)), (22, .bool false)]) (H' := [some (whO w)])
  · (refine ⟨0, ?_⟩; simp (maxSteps := 2000000) -implicitDefEqProofs [-getElem?_pos, List.getElem?_cons_zero, List.getElem?_cons_succ, go_sem, eqV, plen, loadV, storeV, h11, t11])
  apply Tells.seq (fr' := [(1, .int .u8 (t : Nat)), (2, .ptr 0 0 0 0), (5, .str (ckT w)), (22, .bool false)]) (H' := [some (whO w)])
  · exact Run.cond (d := false) rfl ⟨0, rfl⟩
  obtain ⟨c7, hc7, tl, r7⟩ := wt_r7 w t (ckT w) hw
  apply Tells.seq (piece (P := fun cd => Run X (evT X) _ 0 cd _ _ _) ⟨c7, hc7, r7⟩ _ rfl)
  by_cases h10 : t = 10
  · subst h10
    refine Tells.of (o := ⟨.ret, [(4, .str (wtB w 10))], [some (whO w)]⟩) ⟨0, ?_⟩ ⟨rfl, rfl⟩
    rw [show wtB w 10 = dyT w from rfl]
    simp (maxSteps := 2000000) -implicitDefEqProofs [-getElem?_pos, List.getElem?_cons_zero, List.getElem?_cons_succ, go_sem, eqV, plen, loadV, storeV]
  · have t10 : ((t : Int) == 10) = false := by simp; omega
    have e1 := dig_ev (H := [some (whO w)]) (x := h) (n := 2) (by omega) (by omega)
    have l2 := padB_len (x := h) (n := 2) (by omega) (by omega)
    have l3 : (dyT w).length ≤ 100 := by
      unfold dyT
      have h1 := hw.y; have h2 := hw.mo; have h3 := hw.d
      have q1 := padB_len (x := w.y.toNat) (n := 4) (by omega) (by omega)
      have q2 := padB_len (x := w.mo.toNat) (n := 2) (by omega) (by omega)
      have q3 := padB_len (x := w.d.toNat) (n := 2) (by omega) (by omega)
      simp only [List.length_cons, List.length_append]
      omega
    have hwt : wtB w t = dyT w ++ 32 :: (padB h 2 ++ ckT w) := by unfold wtB; rw [if_neg h11, if_neg h10, hh]; rfl
    refine Tells.of (o := ⟨.ret, [(4, .str (wtB w t))], [some (whO w)]⟩) ⟨0, ?_⟩ ⟨rfl, rfl⟩
    rw [hwt]
    generalize ckT w = K at *
    generalize dyT w = D at *
    generalize padB h 2 = A at *
    have c1 : strOp .add D [32] = some (.str (D ++ [32])) := catS (by simp; omega) rfl
    have c2 : strOp .add (D ++ [32]) A = some (.str (D ++ 32 :: A)) := catS (by simp; omega) (by simp)
    have c3 : strOp .add (D ++ 32 :: A) K = some (.str (D ++ 32 :: (A ++ K))) := catS (by simp; omega) (by simp)
    simp only [Int.cast_ofNat_Int] at e1
    simp only [whO, Wh.pay, hh] at e1 ⊢
    simp (maxSteps := 2000000) -implicitDefEqProofs [-getElem?_pos, List.getElem?_cons_zero, List.getElem?_cons_succ, go_sem, eqV, plen, loadV, storeV, h10, t10, e1, c1, c2, c3]

end

theorem wt_ev {H : AM.Heap} {w : Wh} {t : Nat} (ht : t < 256) (hw : WOk w) : evT X 29 [.agg w.pay, .int .u8 (t : Nat)] H = some (.str (wtB w t), H) := by
  obtain ⟨code, hcode, o, ⟨he, h4⟩, hr⟩ := wt_code w t ht hw
  exact evT_eq (Ev1.toldP (l := [.str (wtB w t)]) (evT_below X) Tryd.func29 hcode (args_wh (args_flat (i := 1) rfl rfl (args_nil 2))) rfl (by simp [gtag]) rfl rfl rfl ⟨o, ⟨he, by show some [getF o.fr 4] = _; rw [h4]⟩, hr⟩)

end Go.Proofs.YtifgkkfchnfcaaaDoor

/- Walks: the check of a value. -/
namespace Go.Proofs.YtifgkkfchnfcaaaDoor
open Go.AM
set_option linter.unusedSimpArgs false
set_option linter.unusedVariables false

theorem vaEqF (k i b : Int) (t : List UInt8) (a : Bool) (y mo d h mi s us : Int) (k' i' b' : Int) (t' : List UInt8) (a' : Bool) (y' mo' d' h' mi' s' us' : Int) :
    eqFlat X 6 27 [.int .i64 k, .int .i64 i, .int .u64 b, .str t, .bool a, .int .i64 y, .int .i64 mo, .int .i64 d, .int .i64 h, .int .i64 mi, .int .i64 s, .int .i64 us] [.int .i64 k', .int .i64 i', .int .u64 b', .str t', .bool a', .int .i64 y', .int .i64 mo', .int .i64 d', .int .i64 h', .int .i64 mi', .int .i64 s', .int .i64 us'] =
      some (k == k' && (i == i' && (b == b' && (t == t' && ((a == a' && (y == y' && (mo == mo' && (d == d' && (h == h' && (mi == mi' && (s == s' && (us == us' && true)))))))) && true))))) := by kernel_rfl
theorem stVa : isStructT X 27 = true := by kernel_rfl
theorem guVa : X.P.eqGuardType X.P.depth 27 = false := by kernel_rfl
theorem eqVa (v v' : Va) (H : AM.Heap) (xo yo : Operand) : eqV X H 27 (.agg v.pay) (.agg v'.pay) xo yo = some (decide (v = v')) := by
  unfold Va.pay
  rw [eqV_agg stVa guVa]
  have := vaEqF v.k v.i v.b v.t v.w.neg v.w.y v.w.mo v.w.d v.w.h v.w.mi v.w.s v.w.us v'.k v'.i v'.b v'.t v'.w.neg v'.w.y v'.w.mo v'.w.d v'.w.h v'.w.mi v'.w.s v'.w.us
  refine this.trans (congrArg some ?_)
  rw [Bool.eq_iff_iff, decide_eq_true_eq]
  simp only [Bool.and_eq_true, beq_iff_eq, and_true]
  obtain ⟨k, i, b, t, w⟩ := v
  obtain ⟨k', i', b', t', w'⟩ := v'
  cases w; cases w'
  simp only [Va.mk.injEq, Wh.mk.injEq]
  constructor
  · rintro ⟨h1, h2, h3, h4, h5⟩; exact ⟨h1, h2, Int.ofNat.inj h3, h4, h5⟩
  · rintro ⟨h1, h2, h3, h4, h5⟩; exact ⟨h1, h2, by rw [h3], h4, h5⟩

theorem bdV0 : buildV X 27 [] = some (.agg ({} : Va).pay) := by kernel_rfl
theorem bdVi (k i : Int) : buildV X 27 [(0, .int .i64 k), (1, .int .i64 i)] = some (.agg ({ k := k, i := i } : Va).pay) := by kernel_rfl
theorem bdVb (k : Int) (b : Nat) : buildV X 27 [(0, .int .i64 k), (2, .int .u64 (b : Nat))] = some (.agg ({ k := k, b := b } : Va).pay) := by kernel_rfl
theorem bdVt (k : Int) (t : List UInt8) : buildV X 27 [(0, .int .i64 k), (3, .str t)] = some (.agg ({ k := k, t := t } : Va).pay) := by kernel_rfl
theorem bdVw (k : Int) (w : Wh) : buildV X 27 [(0, .int .i64 k), (4, .agg w.pay)] = some (.agg ({ k := k, w := w } : Va).pay) := by kernel_rfl

/-- fits a number in n bytes? -/
def okI (i : Int) (n : Nat) : Bool := decide (8 ≤ n) || decide (-(2 ^ (8 * n - 1)) ≤ i ∧ i < 2 ^ (8 * n - 1))
def okB (b n : Nat) : Bool := decide (8 ≤ n) || decide (b < 2 ^ (8 * n))
/-- is a value, other than nothing, one of its type? -/
def okVk (v : Va) (k : Int) (n tt : Nat) : Bool :=
  if v.k = 1 then decide (k = 1) && (decide (v = { k := 1, i := v.i }) && okI v.i n)
  else if v.k = 2 ∨ v.k = 3 ∨ v.k = 4 then decide (k = v.k) && (decide (v = { k := v.k, b := v.b }) && okB v.b n)
  else if v.k = 5 ∨ v.k = 6 then decide (k = v.k) && (decide (v = { k := v.k, w := v.w }) && fin v.w tt)
  else if v.k = 7 then decide (k = 7) && (decide (v = { k := 7, t := v.t }) && decide (v.t.length ≤ 16777216))
  else false
def okVa (v : Va) (t : Ty) : Bool := okVk v (kindN t.t t.u) (sizeN t.t) t.t
/-- a value's check -/
def chkV (v : Va) (t : Ty) : Int := if kindN t.t t.u < 0 then 2 else if v = {} then 0 else if okVa v t then 0 else 2

theorem kind_bd : ∀ t u, -1 ≤ kindN t u ∧ kindN t u ≤ 7 := by
  intro t u
  unfold kindN
  repeat' split
  all_goals omega

theorem size_num {t : Nat} {u : Bool} (h : kindN t u = 1 ∨ kindN t u = 2 ∨ kindN t u = 3 ∨ kindN t u = 4) : sizeN t = 1 ∨ sizeN t = 2 ∨ sizeN t = 4 ∨ sizeN t = 8 := by
  unfold kindN at h
  unfold sizeN
  by_cases h0 : kn t = false
  · rw [if_pos h0] at h; omega
  rw [if_neg h0] at h
  by_cases h1 : t = 1 ∨ t = 2 ∨ t = 13 ∨ t = 3 ∨ t = 9 ∨ t = 8
  · rcases h1 with h1 | h1 | h1 | h1 | h1 | h1 <;> subst h1 <;> simp
  rw [if_neg h1] at h
  by_cases h2 : t = 4
  · subst h2; simp
  rw [if_neg h2] at h
  by_cases h3 : t = 5
  · subst h3; simp
  rw [if_neg h3] at h
  by_cases h4 : t = 7 ∨ t = 10 ∨ t = 12
  · rw [if_pos h4] at h; omega
  rw [if_neg h4] at h
  by_cases h5 : t = 11
  · rw [if_pos h5] at h; omega
  rw [if_neg h5] at h
  by_cases h6 : t = 6
  · rw [if_pos h6] at h; omega
  rw [if_neg h6] at h
  omega

theorem fdiv_q {i : Int} {m : Nat} (q : Int) (hq : i.fdiv (2 ^ m) = q) : ((q == 0) || (q == -1)) = decide (-(2 ^ m) ≤ i ∧ i < 2 ^ m) := by
  have hp : (0 : Int) < 2 ^ m := Int.pow_pos (by decide)
  rw [Int.fdiv_eq_ediv_of_nonneg _ (Int.le_of_lt hp)] at hq
  have h1 := Int.mul_ediv_add_emod i (2 ^ m)
  have h2 := Int.emod_nonneg i (b := 2 ^ m) (by omega)
  have h3 := Int.emod_lt_of_pos i hp
  rw [hq] at h1
  generalize i % 2 ^ m = r at *
  generalize (2 : Int) ^ m = B at *
  rw [Bool.eq_iff_iff]
  simp only [Bool.or_eq_true, beq_iff_eq, decide_eq_true_eq]
  constructor
  · rintro (h | h) <;> subst h <;> constructor <;> omega
  · rintro ⟨h4, h5⟩
    apply Classical.byContradiction
    intro hc
    rcases Int.lt_or_gt_of_ne (show q ≠ 0 by omega) with h6 | h6
    · have : B * q ≤ B * (-2) := Int.mul_le_mul_of_nonneg_left (by omega) (by omega)
      omega
    · have : B * 1 ≤ B * q := Int.mul_le_mul_of_nonneg_left (by omega) (by omega)
      omega

def ckFr (k : Int) (f : Bool) (n : Nat) : AM.Frame := [(2, .ptr 0 0 0 0), (3, .ptr 1 0 0 0), (5, .int .i64 k), (6, .bool f), (7, .int .i64 (n : Nat))]

/-- the check's choice -/
noncomputable def ckO : Option Code := (((((((Tryd.f15.body).bind cR).bind cR).bind cR).bind cR).bind cR).bind cR).bind cL

/-- how the choice leaves the frame and the heap -/
def ckP (v : Va) (t : Ty) (k : Int) (n : Nat) (fr : AM.Frame) (H : AM.Heap) : Prop := H = [some (vaO v), some (tyO t)] ∧ (fr = [(6, .bool (okVk v k n t.t))] ∨ fr = [(2, .ptr 0 0 0 0), (5, .int .i64 k), (6, .bool (okVk v k n t.t)), (103, .bool false)])

theorem rsz (t : Nat) : rsizeN t = 1 ∨ rsizeN t = 2 ∨ rsizeN t = 4 ∨ rsizeN t = 8 := by
  unfold rsizeN; repeat' split
  all_goals omega
theorem rsize_eq {t : Nat} (h : sizeN t ≠ 0) : rsizeN t = sizeN t := by
  unfold sizeN at h ⊢
  unfold rsizeN
  repeat' split
  all_goals first | rfl | (simp_all; done) | omega

end Go.Proofs.YtifgkkfchnfcaaaDoor

/- Walks: the check's choice. -/
namespace Go.Proofs.YtifgkkfchnfcaaaDoor
open Go.AM
set_option linter.unusedSimpArgs false
set_option linter.unusedVariables false

set_option maxRecDepth 100000 in
set_option maxHeartbeats 4000000 in
theorem ck1 (v : Va) (t : Ty) (k : Int) (n : Nat) (hbd : -1 ≤ k ∧ k ≤ 7) (hk0 : ¬ k < 0) (hsz : k = 1 ∨ k = 2 ∨ k = 3 ∨ k = 4 → n = 1 ∨ n = 2 ∨ n = 4 ∨ n = 8) (hF : evT X 34 [.agg v.w.pay, .int .u8 (t.t : Nat)] [some (vaO v), some (tyO t)] = some (.bool (fin v.w t.t), [some (vaO v), some (tyO t)])) (k1 : v.k = 1) : ∃ code, ckO = some code ∧
    Tells (Goes (ckP v t k n)) X (evT X) 15 0 code (ckFr k (v.k == k) (8 * n)) [some (vaO v), some (tyO t)] := by
  refine ⟨_, rfl, ?_⟩
  unfold ckP okVk
  rw [if_pos k1]
  by_cases hk1 : k = 1
  case neg =>
    have hkb : ((1 : Int) == k) = false := by simp; omega
    rw [decide_eq_false hk1]
    refine Tells.of (o := ⟨.normal, [(6, .bool false)], [some (vaO v), some (tyO t)]⟩) ⟨0, ?_⟩ ⟨rfl, rfl, .inl rfl⟩
    generalize 8 * n = n8 at *
    simp (maxSteps := 2000000) -implicitDefEqProofs [-getElem?_pos, List.getElem?_cons_zero, List.getElem?_cons_succ, go_sem, eqV, plen, loadV, storeV, vaO, tyO, Va.pay, ckFr, k1, hkb]
  subst hk1
  have hEq := fun H xo yo => eqVa v { k := 1, i := v.i } H xo yo
  have hbi := bdVi 1 v.i
  generalize hpz : (({ k := 1, i := v.i } : Va).pay) = pz at *
  generalize decide (v = { k := 1, i := v.i }) = e at *
  simp only [Va.pay] at hEq
  rw [k1] at hEq
  cases e with
  | false =>
    refine Tells.of (o := ⟨.normal, [(6, .bool false)], [some (vaO v), some (tyO t)]⟩) ⟨0, ?_⟩ ⟨rfl, rfl, .inl (by simp)⟩
    generalize 8 * n = n8 at *
    simp (maxSteps := 2000000) -implicitDefEqProofs [-getElem?_pos, List.getElem?_cons_zero, List.getElem?_cons_succ, go_sem, eqV, plen, loadV, storeV, -eqV, vaO, tyO, Va.pay, ckFr, k1, mkVa, hbi, hEq]
  | true =>
  have hn := hsz (.inl rfl)
  unfold okI
  rcases hn with rfl | rfl | rfl | rfl
  · have hq := fdiv_q (i := v.i) (m := 7) _ rfl
    have e1 : (decide (8 ≤ 1) || decide (-(2 ^ (8 * 1 - 1)) ≤ v.i ∧ v.i < 2 ^ (8 * 1 - 1))) = ((v.i.fdiv 128 == 0) || (v.i.fdiv 128 == -1)) := by rw [show (128 : Int) = 2 ^ 7 from rfl, hq]; simp
    rw [e1]
    clear e1 hq
    generalize hq2 : v.i.fdiv 128 = q at *
    by_cases q0 : q = 0
    · refine Tells.of (o := ⟨.normal, [(6, .bool true)], [some (vaO v), some (tyO t)]⟩) ⟨0, ?_⟩ ⟨rfl, rfl, .inl (by simp [q0])⟩
      simp (maxSteps := 2000000) -implicitDefEqProofs [-getElem?_pos, List.getElem?_cons_zero, List.getElem?_cons_succ, go_sem, eqV, plen, loadV, storeV, -eqV, vaO, tyO, Va.pay, ckFr, k1, mkVa, hbi, hEq, hq2, q0, minmax, show IntKind.i64.bits = 64 from rfl, show IntKind.i64.wrap 7 = 7 from rfl, show IntKind.i64.wrap 15 = 15 from rfl, show IntKind.i64.wrap 31 = 31 from rfl, show IntKind.i64.wrap 63 = 63 from rfl]
    have q0b : (q == 0) = false := by simpa using q0
    by_cases q1 : q = -1
    · refine Tells.of (o := ⟨.normal, [(6, .bool true)], [some (vaO v), some (tyO t)]⟩) ⟨0, ?_⟩ ⟨rfl, rfl, .inl (by simp [q1])⟩
      simp (maxSteps := 2000000) -implicitDefEqProofs [-getElem?_pos, List.getElem?_cons_zero, List.getElem?_cons_succ, go_sem, eqV, plen, loadV, storeV, -eqV, vaO, tyO, Va.pay, ckFr, k1, mkVa, hbi, hEq, hq2, q1, minmax, show IntKind.i64.bits = 64 from rfl, show IntKind.i64.wrap 7 = 7 from rfl, show IntKind.i64.wrap 15 = 15 from rfl, show IntKind.i64.wrap 31 = 31 from rfl, show IntKind.i64.wrap 63 = 63 from rfl]
    have q1b : (q == -1) = false := by simpa using q1
    refine Tells.of (o := ⟨.normal, [(6, .bool false)], [some (vaO v), some (tyO t)]⟩) ⟨0, ?_⟩ ⟨rfl, rfl, .inl (by simp [q0, q1])⟩
    simp (maxSteps := 2000000) -implicitDefEqProofs [-getElem?_pos, List.getElem?_cons_zero, List.getElem?_cons_succ, go_sem, eqV, plen, loadV, storeV, -eqV, vaO, tyO, Va.pay, ckFr, k1, mkVa, hbi, hEq, hq2, q0b, q1b, minmax, show IntKind.i64.bits = 64 from rfl, show IntKind.i64.wrap 7 = 7 from rfl, show IntKind.i64.wrap 15 = 15 from rfl, show IntKind.i64.wrap 31 = 31 from rfl, show IntKind.i64.wrap 63 = 63 from rfl]
  · have hq := fdiv_q (i := v.i) (m := 15) _ rfl
    have e1 : (decide (8 ≤ 2) || decide (-(2 ^ (8 * 2 - 1)) ≤ v.i ∧ v.i < 2 ^ (8 * 2 - 1))) = ((v.i.fdiv 32768 == 0) || (v.i.fdiv 32768 == -1)) := by rw [show (32768 : Int) = 2 ^ 15 from rfl, hq]; simp
    rw [e1]
    clear e1 hq
    generalize hq2 : v.i.fdiv 32768 = q at *
    by_cases q0 : q = 0
    · refine Tells.of (o := ⟨.normal, [(6, .bool true)], [some (vaO v), some (tyO t)]⟩) ⟨0, ?_⟩ ⟨rfl, rfl, .inl (by simp [q0])⟩
      simp (maxSteps := 2000000) -implicitDefEqProofs [-getElem?_pos, List.getElem?_cons_zero, List.getElem?_cons_succ, go_sem, eqV, plen, loadV, storeV, -eqV, vaO, tyO, Va.pay, ckFr, k1, mkVa, hbi, hEq, hq2, q0, minmax, show IntKind.i64.bits = 64 from rfl, show IntKind.i64.wrap 7 = 7 from rfl, show IntKind.i64.wrap 15 = 15 from rfl, show IntKind.i64.wrap 31 = 31 from rfl, show IntKind.i64.wrap 63 = 63 from rfl]
    have q0b : (q == 0) = false := by simpa using q0
    by_cases q1 : q = -1
    · refine Tells.of (o := ⟨.normal, [(6, .bool true)], [some (vaO v), some (tyO t)]⟩) ⟨0, ?_⟩ ⟨rfl, rfl, .inl (by simp [q1])⟩
      simp (maxSteps := 2000000) -implicitDefEqProofs [-getElem?_pos, List.getElem?_cons_zero, List.getElem?_cons_succ, go_sem, eqV, plen, loadV, storeV, -eqV, vaO, tyO, Va.pay, ckFr, k1, mkVa, hbi, hEq, hq2, q1, minmax, show IntKind.i64.bits = 64 from rfl, show IntKind.i64.wrap 7 = 7 from rfl, show IntKind.i64.wrap 15 = 15 from rfl, show IntKind.i64.wrap 31 = 31 from rfl, show IntKind.i64.wrap 63 = 63 from rfl]
    have q1b : (q == -1) = false := by simpa using q1
    refine Tells.of (o := ⟨.normal, [(6, .bool false)], [some (vaO v), some (tyO t)]⟩) ⟨0, ?_⟩ ⟨rfl, rfl, .inl (by simp [q0, q1])⟩
    simp (maxSteps := 2000000) -implicitDefEqProofs [-getElem?_pos, List.getElem?_cons_zero, List.getElem?_cons_succ, go_sem, eqV, plen, loadV, storeV, -eqV, vaO, tyO, Va.pay, ckFr, k1, mkVa, hbi, hEq, hq2, q0b, q1b, minmax, show IntKind.i64.bits = 64 from rfl, show IntKind.i64.wrap 7 = 7 from rfl, show IntKind.i64.wrap 15 = 15 from rfl, show IntKind.i64.wrap 31 = 31 from rfl, show IntKind.i64.wrap 63 = 63 from rfl]
  · have hq := fdiv_q (i := v.i) (m := 31) _ rfl
    have e1 : (decide (8 ≤ 4) || decide (-(2 ^ (8 * 4 - 1)) ≤ v.i ∧ v.i < 2 ^ (8 * 4 - 1))) = ((v.i.fdiv 2147483648 == 0) || (v.i.fdiv 2147483648 == -1)) := by rw [show (2147483648 : Int) = 2 ^ 31 from rfl, hq]; simp
    rw [e1]
    clear e1 hq
    generalize hq2 : v.i.fdiv 2147483648 = q at *
    by_cases q0 : q = 0
    · refine Tells.of (o := ⟨.normal, [(6, .bool true)], [some (vaO v), some (tyO t)]⟩) ⟨0, ?_⟩ ⟨rfl, rfl, .inl (by simp [q0])⟩
      simp (maxSteps := 2000000) -implicitDefEqProofs [-getElem?_pos, List.getElem?_cons_zero, List.getElem?_cons_succ, go_sem, eqV, plen, loadV, storeV, -eqV, vaO, tyO, Va.pay, ckFr, k1, mkVa, hbi, hEq, hq2, q0, minmax, show IntKind.i64.bits = 64 from rfl, show IntKind.i64.wrap 7 = 7 from rfl, show IntKind.i64.wrap 15 = 15 from rfl, show IntKind.i64.wrap 31 = 31 from rfl, show IntKind.i64.wrap 63 = 63 from rfl]
    have q0b : (q == 0) = false := by simpa using q0
    by_cases q1 : q = -1
    · refine Tells.of (o := ⟨.normal, [(6, .bool true)], [some (vaO v), some (tyO t)]⟩) ⟨0, ?_⟩ ⟨rfl, rfl, .inl (by simp [q1])⟩
      simp (maxSteps := 2000000) -implicitDefEqProofs [-getElem?_pos, List.getElem?_cons_zero, List.getElem?_cons_succ, go_sem, eqV, plen, loadV, storeV, -eqV, vaO, tyO, Va.pay, ckFr, k1, mkVa, hbi, hEq, hq2, q1, minmax, show IntKind.i64.bits = 64 from rfl, show IntKind.i64.wrap 7 = 7 from rfl, show IntKind.i64.wrap 15 = 15 from rfl, show IntKind.i64.wrap 31 = 31 from rfl, show IntKind.i64.wrap 63 = 63 from rfl]
    have q1b : (q == -1) = false := by simpa using q1
    refine Tells.of (o := ⟨.normal, [(6, .bool false)], [some (vaO v), some (tyO t)]⟩) ⟨0, ?_⟩ ⟨rfl, rfl, .inl (by simp [q0, q1])⟩
    simp (maxSteps := 2000000) -implicitDefEqProofs [-getElem?_pos, List.getElem?_cons_zero, List.getElem?_cons_succ, go_sem, eqV, plen, loadV, storeV, -eqV, vaO, tyO, Va.pay, ckFr, k1, mkVa, hbi, hEq, hq2, q0b, q1b, minmax, show IntKind.i64.bits = 64 from rfl, show IntKind.i64.wrap 7 = 7 from rfl, show IntKind.i64.wrap 15 = 15 from rfl, show IntKind.i64.wrap 31 = 31 from rfl, show IntKind.i64.wrap 63 = 63 from rfl]
  · have e1 : (decide (8 ≤ 8) || decide (-(2 ^ (8 * 8 - 1)) ≤ v.i ∧ v.i < 2 ^ (8 * 8 - 1))) = true := by simp
    rw [e1]
    refine Tells.of (o := ⟨.normal, [(6, .bool true)], [some (vaO v), some (tyO t)]⟩) ⟨0, ?_⟩ ⟨rfl, rfl, .inl (by simp)⟩
    simp (maxSteps := 2000000) -implicitDefEqProofs [-getElem?_pos, List.getElem?_cons_zero, List.getElem?_cons_succ, go_sem, eqV, plen, loadV, storeV, -eqV, vaO, tyO, Va.pay, ckFr, k1, mkVa, hbi, hEq, minmax, show IntKind.i64.bits = 64 from rfl, show IntKind.i64.wrap 7 = 7 from rfl, show IntKind.i64.wrap 15 = 15 from rfl, show IntKind.i64.wrap 31 = 31 from rfl, show IntKind.i64.wrap 63 = 63 from rfl]

end Go.Proofs.YtifgkkfchnfcaaaDoor

/- Walks: the check's choice. -/
namespace Go.Proofs.YtifgkkfchnfcaaaDoor
open Go.AM
set_option linter.unusedSimpArgs false
set_option linter.unusedVariables false

set_option maxRecDepth 100000 in
set_option maxHeartbeats 4000000 in
theorem ck234 (v : Va) (t : Ty) (k : Int) (n : Nat) (hbd : -1 ≤ k ∧ k ≤ 7) (hk0 : ¬ k < 0) (hsz : k = 1 ∨ k = 2 ∨ k = 3 ∨ k = 4 → n = 1 ∨ n = 2 ∨ n = 4 ∨ n = 8) (hF : evT X 34 [.agg v.w.pay, .int .u8 (t.t : Nat)] [some (vaO v), some (tyO t)] = some (.bool (fin v.w t.t), [some (vaO v), some (tyO t)])) (k234 : v.k = 2 ∨ v.k = 3 ∨ v.k = 4) : ∃ code, ckO = some code ∧
    Tells (Goes (ckP v t k n)) X (evT X) 15 0 code (ckFr k (v.k == k) (8 * n)) [some (vaO v), some (tyO t)] := by
  refine ⟨_, rfl, ?_⟩
  unfold ckP okVk
  have k1 : ¬ v.k = 1 := by omega
  rw [if_neg k1, if_pos k234]
  by_cases hk1 : k = v.k
  case neg =>
    have hkb : (v.k == k) = false := by simp; omega
    rw [decide_eq_false hk1]
    refine Tells.of (o := ⟨.normal, [(6, .bool false)], [some (vaO v), some (tyO t)]⟩) ⟨0, ?_⟩ ⟨rfl, rfl, .inl rfl⟩
    generalize 8 * n = n8 at *
    rcases k234 with kv | kv | kv
    · rw [kv] at hkb
      simp (maxSteps := 2000000) -implicitDefEqProofs [-getElem?_pos, List.getElem?_cons_zero, List.getElem?_cons_succ, go_sem, eqV, plen, loadV, storeV, vaO, tyO, Va.pay, ckFr, kv, hkb]
    · rw [kv] at hkb
      simp (maxSteps := 2000000) -implicitDefEqProofs [-getElem?_pos, List.getElem?_cons_zero, List.getElem?_cons_succ, go_sem, eqV, plen, loadV, storeV, vaO, tyO, Va.pay, ckFr, kv, hkb]
    · rw [kv] at hkb
      simp (maxSteps := 2000000) -implicitDefEqProofs [-getElem?_pos, List.getElem?_cons_zero, List.getElem?_cons_succ, go_sem, eqV, plen, loadV, storeV, vaO, tyO, Va.pay, ckFr, kv, hkb]
  subst hk1
  have hn := hsz (by omega)
  have hEq := fun H xo yo => eqVa v { k := v.k, b := v.b } H xo yo
  have hbi := bdVb v.k v.b
  generalize hpz : (({ k := v.k, b := v.b } : Va).pay) = pz at *
  generalize decide (v = { k := v.k, b := v.b }) = e at *
  simp only [Va.pay] at hEq
  cases e with
  | false =>
    refine Tells.of (o := ⟨.normal, [(6, .bool false)], [some (vaO v), some (tyO t)]⟩) ⟨0, ?_⟩ ⟨rfl, rfl, .inl (by simp)⟩
    generalize 8 * n = n8 at *
    rcases k234 with kv | kv | kv
    · rw [kv] at hEq hbi
      simp (maxSteps := 2000000) -implicitDefEqProofs [-getElem?_pos, List.getElem?_cons_zero, List.getElem?_cons_succ, go_sem, eqV, plen, loadV, storeV, -eqV, vaO, tyO, Va.pay, ckFr, kv, mkVa, hbi, hEq]
    · rw [kv] at hEq hbi
      simp (maxSteps := 2000000) -implicitDefEqProofs [-getElem?_pos, List.getElem?_cons_zero, List.getElem?_cons_succ, go_sem, eqV, plen, loadV, storeV, -eqV, vaO, tyO, Va.pay, ckFr, kv, mkVa, hbi, hEq]
    · rw [kv] at hEq hbi
      simp (maxSteps := 2000000) -implicitDefEqProofs [-getElem?_pos, List.getElem?_cons_zero, List.getElem?_cons_succ, go_sem, eqV, plen, loadV, storeV, -eqV, vaO, tyO, Va.pay, ckFr, kv, mkVa, hbi, hEq]
  | true =>
  unfold okB
  clear hpz
  have main : ∀ kk : Int, v.k = kk → (kk = 2 ∨ kk = 3 ∨ kk = 4) → True := fun _ _ _ => trivial
  rcases hn with rfl | rfl | rfl | rfl
  · have e1 : (decide (8 ≤ 1) || decide (v.b < 2 ^ (8 * 1))) = ((v.b / 256 : Nat) == 0) := by rw [Bool.eq_iff_iff]; first | (simp; done) | (simp; omega)
    rw [e1]
    clear e1
    have hd : Int.fdiv (v.b : Int) 256 = ((v.b / 256 : Nat) : Int) := by
      rw [Int.fdiv_eq_ediv_of_nonneg _ (by decide)]; exact (Int.natCast_ediv _ _).symm
    generalize v.b / 256 = q at *
    have hqb : ((q : Int) == 0) = (q == 0) := by rw [Bool.eq_iff_iff]; simp
    generalize hqq : (q == 0) = qb at *
    refine Tells.of (o := ⟨.normal, [(6, .bool qb)], [some (vaO v), some (tyO t)]⟩) ⟨0, ?_⟩ ⟨rfl, rfl, .inl (by simp)⟩
    rcases k234 with kv | kv | kv
    · rw [kv] at hEq hbi
      simp (maxSteps := 2000000) -implicitDefEqProofs [-getElem?_pos, List.getElem?_cons_zero, List.getElem?_cons_succ, go_sem, eqV, plen, loadV, storeV, -eqV, vaO, tyO, Va.pay, ckFr, kv, mkVa, hbi, hEq, hd, hqb, show IntKind.u64.bits = 64 from rfl]
    · rw [kv] at hEq hbi
      simp (maxSteps := 2000000) -implicitDefEqProofs [-getElem?_pos, List.getElem?_cons_zero, List.getElem?_cons_succ, go_sem, eqV, plen, loadV, storeV, -eqV, vaO, tyO, Va.pay, ckFr, kv, mkVa, hbi, hEq, hd, hqb, show IntKind.u64.bits = 64 from rfl]
    · rw [kv] at hEq hbi
      simp (maxSteps := 2000000) -implicitDefEqProofs [-getElem?_pos, List.getElem?_cons_zero, List.getElem?_cons_succ, go_sem, eqV, plen, loadV, storeV, -eqV, vaO, tyO, Va.pay, ckFr, kv, mkVa, hbi, hEq, hd, hqb, show IntKind.u64.bits = 64 from rfl]
  · have e1 : (decide (8 ≤ 2) || decide (v.b < 2 ^ (8 * 2))) = ((v.b / 65536 : Nat) == 0) := by rw [Bool.eq_iff_iff]; first | (simp; done) | (simp; omega)
    rw [e1]
    clear e1
    have hd : Int.fdiv (v.b : Int) 65536 = ((v.b / 65536 : Nat) : Int) := by
      rw [Int.fdiv_eq_ediv_of_nonneg _ (by decide)]; exact (Int.natCast_ediv _ _).symm
    generalize v.b / 65536 = q at *
    have hqb : ((q : Int) == 0) = (q == 0) := by rw [Bool.eq_iff_iff]; simp
    generalize hqq : (q == 0) = qb at *
    refine Tells.of (o := ⟨.normal, [(6, .bool qb)], [some (vaO v), some (tyO t)]⟩) ⟨0, ?_⟩ ⟨rfl, rfl, .inl (by simp)⟩
    rcases k234 with kv | kv | kv
    · rw [kv] at hEq hbi
      simp (maxSteps := 2000000) -implicitDefEqProofs [-getElem?_pos, List.getElem?_cons_zero, List.getElem?_cons_succ, go_sem, eqV, plen, loadV, storeV, -eqV, vaO, tyO, Va.pay, ckFr, kv, mkVa, hbi, hEq, hd, hqb, show IntKind.u64.bits = 64 from rfl]
    · rw [kv] at hEq hbi
      simp (maxSteps := 2000000) -implicitDefEqProofs [-getElem?_pos, List.getElem?_cons_zero, List.getElem?_cons_succ, go_sem, eqV, plen, loadV, storeV, -eqV, vaO, tyO, Va.pay, ckFr, kv, mkVa, hbi, hEq, hd, hqb, show IntKind.u64.bits = 64 from rfl]
    · rw [kv] at hEq hbi
      simp (maxSteps := 2000000) -implicitDefEqProofs [-getElem?_pos, List.getElem?_cons_zero, List.getElem?_cons_succ, go_sem, eqV, plen, loadV, storeV, -eqV, vaO, tyO, Va.pay, ckFr, kv, mkVa, hbi, hEq, hd, hqb, show IntKind.u64.bits = 64 from rfl]
  · have e1 : (decide (8 ≤ 4) || decide (v.b < 2 ^ (8 * 4))) = ((v.b / 4294967296 : Nat) == 0) := by rw [Bool.eq_iff_iff]; first | (simp; done) | (simp; omega)
    rw [e1]
    clear e1
    have hd : Int.fdiv (v.b : Int) 4294967296 = ((v.b / 4294967296 : Nat) : Int) := by
      rw [Int.fdiv_eq_ediv_of_nonneg _ (by decide)]; exact (Int.natCast_ediv _ _).symm
    generalize v.b / 4294967296 = q at *
    have hqb : ((q : Int) == 0) = (q == 0) := by rw [Bool.eq_iff_iff]; simp
    generalize hqq : (q == 0) = qb at *
    refine Tells.of (o := ⟨.normal, [(6, .bool qb)], [some (vaO v), some (tyO t)]⟩) ⟨0, ?_⟩ ⟨rfl, rfl, .inl (by simp)⟩
    rcases k234 with kv | kv | kv
    · rw [kv] at hEq hbi
      simp (maxSteps := 2000000) -implicitDefEqProofs [-getElem?_pos, List.getElem?_cons_zero, List.getElem?_cons_succ, go_sem, eqV, plen, loadV, storeV, -eqV, vaO, tyO, Va.pay, ckFr, kv, mkVa, hbi, hEq, hd, hqb, show IntKind.u64.bits = 64 from rfl]
    · rw [kv] at hEq hbi
      simp (maxSteps := 2000000) -implicitDefEqProofs [-getElem?_pos, List.getElem?_cons_zero, List.getElem?_cons_succ, go_sem, eqV, plen, loadV, storeV, -eqV, vaO, tyO, Va.pay, ckFr, kv, mkVa, hbi, hEq, hd, hqb, show IntKind.u64.bits = 64 from rfl]
    · rw [kv] at hEq hbi
      simp (maxSteps := 2000000) -implicitDefEqProofs [-getElem?_pos, List.getElem?_cons_zero, List.getElem?_cons_succ, go_sem, eqV, plen, loadV, storeV, -eqV, vaO, tyO, Va.pay, ckFr, kv, mkVa, hbi, hEq, hd, hqb, show IntKind.u64.bits = 64 from rfl]
  · have e1 : (decide (8 ≤ 8) || decide (v.b < 2 ^ (8 * 8))) = true := by simp
    rw [e1]
    refine Tells.of (o := ⟨.normal, [(6, .bool true)], [some (vaO v), some (tyO t)]⟩) ⟨0, ?_⟩ ⟨rfl, rfl, .inl (by simp)⟩
    rcases k234 with kv | kv | kv
    · rw [kv] at hEq hbi
      simp (maxSteps := 2000000) -implicitDefEqProofs [-getElem?_pos, List.getElem?_cons_zero, List.getElem?_cons_succ, go_sem, eqV, plen, loadV, storeV, -eqV, vaO, tyO, Va.pay, ckFr, kv, mkVa, hbi, hEq]
    · rw [kv] at hEq hbi
      simp (maxSteps := 2000000) -implicitDefEqProofs [-getElem?_pos, List.getElem?_cons_zero, List.getElem?_cons_succ, go_sem, eqV, plen, loadV, storeV, -eqV, vaO, tyO, Va.pay, ckFr, kv, mkVa, hbi, hEq]
    · rw [kv] at hEq hbi
      simp (maxSteps := 2000000) -implicitDefEqProofs [-getElem?_pos, List.getElem?_cons_zero, List.getElem?_cons_succ, go_sem, eqV, plen, loadV, storeV, -eqV, vaO, tyO, Va.pay, ckFr, kv, mkVa, hbi, hEq]

end Go.Proofs.YtifgkkfchnfcaaaDoor

/- Walks: the check's choice. -/
namespace Go.Proofs.YtifgkkfchnfcaaaDoor
open Go.AM
set_option linter.unusedSimpArgs false
set_option linter.unusedVariables false

set_option maxRecDepth 100000 in
set_option maxHeartbeats 4000000 in
theorem ckR (v : Va) (t : Ty) (k : Int) (n : Nat) (hbd : -1 ≤ k ∧ k ≤ 7) (hk0 : ¬ k < 0) (hsz : k = 1 ∨ k = 2 ∨ k = 3 ∨ k = 4 → n = 1 ∨ n = 2 ∨ n = 4 ∨ n = 8) (hF : evT X 34 [.agg v.w.pay, .int .u8 (t.t : Nat)] [some (vaO v), some (tyO t)] = some (.bool (fin v.w t.t), [some (vaO v), some (tyO t)])) (k1 : ¬ v.k = 1) (k234 : ¬ (v.k = 2 ∨ v.k = 3 ∨ v.k = 4)) : ∃ code, ckO = some code ∧
    Tells (Goes (ckP v t k n)) X (evT X) 15 0 code (ckFr k (v.k == k) (8 * n)) [some (vaO v), some (tyO t)] := by
  refine ⟨_, rfl, ?_⟩
  unfold ckP okVk
  have k1b : (v.k == 1) = false := by simpa using k1
  rw [if_neg k1]
  have k2b : (v.k == 2) = false := by simp; omega
  have k3b : (v.k == 3) = false := by simp; omega
  have k4b : (v.k == 4) = false := by simp; omega
  rw [if_neg k234]
  generalize 8 * n = n8 at *
  by_cases k56 : v.k = 5 ∨ v.k = 6
  · rw [if_pos k56]
    by_cases hk1 : k = v.k
    case neg =>
      have hkb : (v.k == k) = false := by simp; omega
      rw [decide_eq_false hk1]
      refine Tells.of (o := ⟨.normal, [(6, .bool false)], [some (vaO v), some (tyO t)]⟩) ⟨0, ?_⟩ ⟨rfl, rfl, .inl rfl⟩
      rcases k56 with kv | kv
      · rw [kv] at hkb
        simp (maxSteps := 2000000) -implicitDefEqProofs [-getElem?_pos, List.getElem?_cons_zero, List.getElem?_cons_succ, go_sem, eqV, plen, loadV, storeV, vaO, tyO, Va.pay, ckFr, kv, hkb]
      · rw [kv] at hkb
        simp (maxSteps := 2000000) -implicitDefEqProofs [-getElem?_pos, List.getElem?_cons_zero, List.getElem?_cons_succ, go_sem, eqV, plen, loadV, storeV, vaO, tyO, Va.pay, ckFr, kv, hkb]
    subst hk1
    have hEq := fun H xo yo => eqVa v { k := v.k, w := v.w } H xo yo
    have hbi := bdVw v.k v.w
    generalize hpz : (({ k := v.k, w := v.w } : Va).pay) = pz at *
    generalize decide (v = { k := v.k, w := v.w }) = e at *
    clear hpz
    simp only [Va.pay] at hEq
    simp only [Wh.pay] at hbi
    cases e with
    | false =>
      refine Tells.of (o := ⟨.normal, [(6, .bool false)], [some (vaO v), some (tyO t)]⟩) ⟨0, ?_⟩ ⟨rfl, rfl, .inl (by simp)⟩
      rcases k56 with kv | kv
      · rw [kv] at hEq hbi
        simp (maxSteps := 2000000) -implicitDefEqProofs [-getElem?_pos, List.getElem?_cons_zero, List.getElem?_cons_succ, go_sem, eqV, plen, loadV, storeV, -eqV, vaO, tyO, Va.pay, ckFr, kv, mkVa, mkWh, hbi, hEq]
      · rw [kv] at hEq hbi
        simp (maxSteps := 2000000) -implicitDefEqProofs [-getElem?_pos, List.getElem?_cons_zero, List.getElem?_cons_succ, go_sem, eqV, plen, loadV, storeV, -eqV, vaO, tyO, Va.pay, ckFr, kv, mkVa, mkWh, hbi, hEq]
    | true =>
    refine Tells.of (o := ⟨.normal, [(6, .bool (fin v.w t.t))], [some (vaO v), some (tyO t)]⟩) ⟨0, ?_⟩ ⟨rfl, rfl, .inl (by simp)⟩
    simp only [vaO, tyO, Va.pay, Ty.pay, Wh.pay] at hF
    generalize fin v.w t.t = fb at *
    rcases k56 with kv | kv
    · rw [kv] at hEq hbi hF
      simp (maxSteps := 2000000) -implicitDefEqProofs [-getElem?_pos, List.getElem?_cons_zero, List.getElem?_cons_succ, go_sem, eqV, plen, loadV, storeV, -eqV, vaO, tyO, Va.pay, Ty.pay, ckFr, kv, mkVa, mkWh, hbi, hEq, hF]
    · rw [kv] at hEq hbi hF
      simp (maxSteps := 2000000) -implicitDefEqProofs [-getElem?_pos, List.getElem?_cons_zero, List.getElem?_cons_succ, go_sem, eqV, plen, loadV, storeV, -eqV, vaO, tyO, Va.pay, Ty.pay, ckFr, kv, mkVa, mkWh, hbi, hEq, hF]
  have k5b : (v.k == 5) = false := by simp; omega
  have k6b : (v.k == 6) = false := by simp; omega
  rw [if_neg k56]
  by_cases k7 : v.k = 7
  · rw [if_pos k7]
    by_cases hk1 : k = 7
    case neg =>
      have hkb : ((7 : Int) == k) = false := by simp; omega
      rw [decide_eq_false hk1]
      refine Tells.of (o := ⟨.normal, [(6, .bool false)], [some (vaO v), some (tyO t)]⟩) ⟨0, ?_⟩ ⟨rfl, rfl, .inl rfl⟩
      simp (maxSteps := 2000000) -implicitDefEqProofs [-getElem?_pos, List.getElem?_cons_zero, List.getElem?_cons_succ, go_sem, eqV, plen, loadV, storeV, vaO, tyO, Va.pay, ckFr, k7, hkb]
    subst hk1
    have hEq := fun H xo yo => eqVa v { k := 7, t := v.t } H xo yo
    have hbi := bdVt 7 v.t
    generalize hpz : (({ k := 7, t := v.t } : Va).pay) = pz at *
    generalize decide (v = { k := 7, t := v.t }) = e at *
    clear hpz
    simp only [Va.pay] at hEq
    rw [k7] at hEq
    cases e with
    | false =>
      refine Tells.of (o := ⟨.normal, [(6, .bool false)], [some (vaO v), some (tyO t)]⟩) ⟨0, ?_⟩ ⟨rfl, rfl, .inl (by simp)⟩
      simp (maxSteps := 2000000) -implicitDefEqProofs [-getElem?_pos, List.getElem?_cons_zero, List.getElem?_cons_succ, go_sem, eqV, plen, loadV, storeV, -eqV, vaO, tyO, Va.pay, ckFr, k7, mkVa, hbi, hEq]
    | true =>
    have hl : decide ((v.t.length : Int) ≤ 16777216) = decide (v.t.length ≤ 16777216) := by rw [decide_eq_decide]; omega
    generalize decide (v.t.length ≤ 16777216) = lb at *
    refine Tells.of (o := ⟨.normal, [(6, .bool lb)], [some (vaO v), some (tyO t)]⟩) ⟨0, ?_⟩ ⟨rfl, rfl, .inl (by simp)⟩
    simp (maxSteps := 2000000) -implicitDefEqProofs [-getElem?_pos, List.getElem?_cons_zero, List.getElem?_cons_succ, go_sem, eqV, plen, loadV, storeV, -eqV, vaO, tyO, Va.pay, ckFr, k7, mkVa, hbi, hEq, hl]
  have k7b : (v.k == 7) = false := by simpa using k7
  rw [if_neg k7]
  by_cases k0 : v.k = 0
  · refine Tells.of (o := ⟨.normal, [(6, .bool false)], [some (vaO v), some (tyO t)]⟩) ⟨0, ?_⟩ ⟨rfl, rfl, .inl rfl⟩
    simp (maxSteps := 2000000) -implicitDefEqProofs [-getElem?_pos, List.getElem?_cons_zero, List.getElem?_cons_succ, go_sem, eqV, plen, loadV, storeV, vaO, tyO, Va.pay, ckFr, k0]
  have k0b : (v.k == 0) = false := by simpa using k0
  have hkb : (v.k == k) = false := by simp; omega
  refine Tells.of (o := ⟨.normal, [(2, .ptr 0 0 0 0), (5, .int .i64 k), (6, .bool false), (103, .bool false)], [some (vaO v), some (tyO t)]⟩) ⟨0, ?_⟩ ⟨rfl, rfl, .inr rfl⟩
  simp (maxSteps := 2000000) -implicitDefEqProofs [-getElem?_pos, List.getElem?_cons_zero, List.getElem?_cons_succ, go_sem, eqV, plen, loadV, storeV, vaO, tyO, Va.pay, ckFr, hkb, k0b, k1b, k2b, k3b, k4b, k5b, k6b, k7b]

end Go.Proofs.YtifgkkfchnfcaaaDoor

/- Walks: the check of a value, whole. -/
namespace Go.Proofs.YtifgkkfchnfcaaaDoor
open Go.AM
set_option linter.unusedSimpArgs false
set_option linter.unusedVariables false

theorem pieceT {O : Option Code} {P : Code → Prop} (h : ∃ code, O = some code ∧ P code) (code' : Code) (h' : O = some code') : P code' := by
  obtain ⟨c, h1, h2⟩ := h
  rw [h'] at h1
  exact (Option.some.inj h1) ▸ h2

section
variable (v : Va) (t : Ty)

set_option maxRecDepth 100000 in
set_option maxHeartbeats 4000000 in
theorem check_code (ht : t.t < 256) (hb : v.b < 18446744073709551616) (hi : -9223372036854775808 ≤ v.i ∧ v.i < 9223372036854775808) : ∃ code, Tryd.f15.body = some code ∧
    Tells (Rets fun fr H => getF fr 4 = .int .i64 (chkV v t)) X (evT X) 15 0 code [(0, .agg v.pay), (1, .agg t.pay)] [] := by
  refine ⟨_, rfl, ?_⟩
  have hK := kind_ev ht [some (vaO v), some (tyO t)]
  have hS := size_ev' ht [some (vaO v), some (tyO t)]
  have hF := fin_ev v.w ht [some (vaO v), some (tyO t)]
  have hbd := kind_bd t.t t.u
  have hsz := size_num (t := t.t) (u := t.u)
  have hn8 : sizeN t.t ≤ 8 := by unfold sizeN; repeat' split
                                 all_goals omega
  unfold chkV okVa
  apply Tells.seq (fr' := [(2, .ptr 0 0 0 0), (3, .ptr 1 0 0 0)]) (H' := [some (vaO v), some (tyO t)])
  · (refine ⟨0, ?_⟩; simp (maxSteps := 2000000) -implicitDefEqProofs [-getElem?_pos, List.getElem?_cons_zero, List.getElem?_cons_succ, go_sem, eqV, plen, loadV, storeV, vaO, tyO, Va.pay, Ty.pay])
  apply Tells.seq (fr' := [(2, .ptr 0 0 0 0), (3, .ptr 1 0 0 0), (5, .int .i64 (kindN t.t t.u))]) (H' := [some (vaO v), some (tyO t)])
  · clear hS hF
    simp only [vaO, tyO, Va.pay, Ty.pay] at hK
    generalize kindN t.t t.u = k at *
    (refine ⟨0, ?_⟩; simp (maxSteps := 2000000) -implicitDefEqProofs [-getElem?_pos, List.getElem?_cons_zero, List.getElem?_cons_succ, go_sem, eqV, plen, loadV, storeV, vaO, tyO, Va.pay, Ty.pay, mkTy, hK])
  clear hK
  generalize kindN t.t t.u = k at *
  by_cases hk0 : k < 0
  · rw [if_pos hk0]
    refine Tells.of (o := ⟨.ret, [(4, .int .i64 2)], [some (vaO v), some (tyO t)]⟩) ?_ ⟨rfl, rfl⟩
    apply Run.seq_out (hne := by simp)
    refine ⟨0, ?_⟩
    simp (maxSteps := 2000000) -implicitDefEqProofs [-getElem?_pos, List.getElem?_cons_zero, List.getElem?_cons_succ, go_sem, eqV, plen, loadV, storeV, hk0]
  rw [if_neg hk0]
  apply Tells.seq (fr' := [(2, .ptr 0 0 0 0), (3, .ptr 1 0 0 0), (5, .int .i64 k), (11, .bool false)]) (H' := [some (vaO v), some (tyO t)])
  · (refine ⟨0, ?_⟩; simp (maxSteps := 2000000) -implicitDefEqProofs [-getElem?_pos, List.getElem?_cons_zero, List.getElem?_cons_succ, go_sem, eqV, plen, loadV, storeV, hk0])
  have hE0 := fun H xo yo => eqVa v {} H xo yo
  by_cases hz : v = {}
  · rw [if_pos hz]
    rw [decide_eq_true hz] at hE0
    refine Tells.of (o := ⟨.ret, [(4, .int .i64 0)], [some (vaO v), some (tyO t)]⟩) ?_ ⟨rfl, rfl⟩
    apply Run.seq_out (hne := by simp)
    apply Run.seq (fr' := [(2, .ptr 0 0 0 0), (3, .ptr 1 0 0 0), (5, .int .i64 k), (14, .bool true)]) (H' := [some (vaO v), some (tyO t)])
    · have hb0 := bdV0
      have hE := hE0
      generalize hpz : (({} : Va).pay) = pz at *
      simp only [Va.pay] at hE
      (refine ⟨0, ?_⟩; simp (maxSteps := 2000000) -implicitDefEqProofs [-getElem?_pos, List.getElem?_cons_zero, List.getElem?_cons_succ, go_sem, eqV, plen, loadV, storeV, -eqV, vaO, tyO, Va.pay, mkVa, hb0, hE])
    refine ⟨0, ?_⟩
    simp (maxSteps := 2000000) -implicitDefEqProofs [-getElem?_pos, List.getElem?_cons_zero, List.getElem?_cons_succ, go_sem, eqV, plen, loadV, storeV]
  rw [if_neg hz]
  rw [decide_eq_false hz] at hE0
  apply Tells.seq (fr' := [(2, .ptr 0 0 0 0), (3, .ptr 1 0 0 0), (5, .int .i64 k), (14, .bool false)]) (H' := [some (vaO v), some (tyO t)])
  · have hb0 := bdV0
    have hE := hE0
    generalize hpz : (({} : Va).pay) = pz at *
    simp only [Va.pay] at hE
    (refine ⟨0, ?_⟩; simp (maxSteps := 2000000) -implicitDefEqProofs [-getElem?_pos, List.getElem?_cons_zero, List.getElem?_cons_succ, go_sem, eqV, plen, loadV, storeV, -eqV, vaO, tyO, Va.pay, mkVa, hb0, hE])
  clear hE0
  apply Tells.seq (fr' := [(2, .ptr 0 0 0 0), (3, .ptr 1 0 0 0), (5, .int .i64 k), (6, .bool (v.k == k))]) (H' := [some (vaO v), some (tyO t)])
  · (refine ⟨0, ?_⟩; simp (maxSteps := 2000000) -implicitDefEqProofs [-getElem?_pos, List.getElem?_cons_zero, List.getElem?_cons_succ, go_sem, eqV, plen, loadV, storeV, vaO, tyO, Va.pay])
  generalize hsn : sizeN t.t = n at *
  have w8 : IntKind.i64.wrap (8 * (n : Int)) = ((8 * n : Nat) : Int) := by rw [wrap_i64 (by omega) (by omega)]; omega
  apply Tells.seq (fr' := ckFr k (v.k == k) (8 * n)) (H' := [some (vaO v), some (tyO t)])
  · simp only [vaO, tyO, Va.pay, Ty.pay] at hS
    generalize 8 * n = n8 at *
    (refine ⟨0, ?_⟩; simp (maxSteps := 2000000) -implicitDefEqProofs [-getElem?_pos, List.getElem?_cons_zero, List.getElem?_cons_succ, go_sem, eqV, plen, loadV, storeV, vaO, tyO, Va.pay, Ty.pay, hS, w8, ckFr])
  clear hS
  have main : ∃ code, ckO = some code ∧ Tells (Goes (ckP v t k n)) X (evT X) 15 0 code (ckFr k (v.k == k) (8 * n)) [some (vaO v), some (tyO t)] := by
    by_cases k1 : v.k = 1
    · exact ck1 v t k n hbd hk0 hsz hF k1
    by_cases k234 : v.k = 2 ∨ v.k = 3 ∨ v.k = 4
    · exact ck234 v t k n hbd hk0 hsz hF k234
    exact ckR v t k n hbd hk0 hsz hF k1 k234
  apply Tells.andThen (P := ckP v t k n)
  · exact pieceT main _ rfl
  rintro fr H ⟨rfl, hfr⟩
  generalize okVk v k n t.t = ok at *
  cases ok with
  | true =>
    refine Tells.of (o := ⟨.ret, [(4, .int .i64 0)], [some (vaO v), some (tyO t)]⟩) ⟨0, ?_⟩ ⟨rfl, rfl⟩
    rcases hfr with rfl | rfl
    · simp (maxSteps := 2000000) -implicitDefEqProofs [-getElem?_pos, List.getElem?_cons_zero, List.getElem?_cons_succ, go_sem, eqV, plen, loadV, storeV, unV]
    · simp (maxSteps := 2000000) -implicitDefEqProofs [-getElem?_pos, List.getElem?_cons_zero, List.getElem?_cons_succ, go_sem, eqV, plen, loadV, storeV, unV]
  | false =>
    refine Tells.of (o := ⟨.ret, [(4, .int .i64 2)], [some (vaO v), some (tyO t)]⟩) ⟨0, ?_⟩ ⟨rfl, rfl⟩
    rcases hfr with rfl | rfl
    · simp (maxSteps := 2000000) -implicitDefEqProofs [-getElem?_pos, List.getElem?_cons_zero, List.getElem?_cons_succ, go_sem, eqV, plen, loadV, storeV, unV]
    · simp (maxSteps := 2000000) -implicitDefEqProofs [-getElem?_pos, List.getElem?_cons_zero, List.getElem?_cons_succ, go_sem, eqV, plen, loadV, storeV, unV]

end

theorem check_ev {v : Va} {t : Ty} (ht : t.t < 256) (hb : v.b < 18446744073709551616) (hi : -9223372036854775808 ≤ v.i ∧ v.i < 9223372036854775808) (H : AM.Heap) : evT X 15 [.agg v.pay, .agg t.pay] H = some (.int .i64 (chkV v t), H) := by
  obtain ⟨code, hcode, o, ⟨he, h4⟩, hr⟩ := check_code v t ht hb hi
  exact evT_eq (Ev1.toldP (l := [.int .i64 (chkV v t)]) (evT_below X) Tryd.func15 hcode (args_va (i := 0) (args_ty (i := 1) (args_nil 2))) (by simp [Va.pay, Ty.pay, idsL, ids]) (by simp [gtag]) rfl rfl rfl ⟨o, ⟨he, by show some [getF o.fr 4] = _; rw [h4]⟩, hr⟩)

end Go.Proofs.YtifgkkfchnfcaaaDoor

/- Walks: a value appended. -/
namespace Go.Proofs.YtifgkkfchnfcaaaDoor
open Go.AM
set_option linter.unusedSimpArgs false
set_option linter.unusedVariables false

theorem when_ev {H : AM.Heap} {o g tg t : Nat} {ob : AM.Obj} {l : List UInt8} {w : Wh} (ho : H[o]? = some (some ob)) (hw : RwT (.pb l) g tg ob) (hl : l.length ≤ 80000000) (ht : t < 256) (hf : fin w t = true) :
    ∃ ob', RwT (.pb (l ++ whB w t)) (g + 1) tg ob' ∧ evT X 21 [.sl o 0 l.length g, .agg w.pay, .int .u8 (t : Nat)] H = some (.sl o 0 (l ++ whB w t).length (g + 1), upd H o (some ob')) := by
  obtain ⟨code, hcode, ⟨out, ⟨he, ob', g', R, q1, q2, q3, q4⟩, hrun⟩⟩ := when_code l w 4 t { ob with g := 0, tg := 4 } ⟨hw.p, rfl, hw.row, hw.ids, rfl⟩ hl ht hf
  refine ⟨{ ob' with g := g + 1, tg := tg }, ⟨q3.p, rfl, q3.row, q3.ids, rfl⟩, evT_eq ?_⟩
  have := Ev1.rwB (C := X) (f := 21) (H := H) (o := o) (off := 0) (len := l.length) (g := g) (ob := ob) (ob1 := ob') (xs := [.agg w.pay, .int .u8 (t : Nat)]) (ys := [.agg w.pay, .int .u8 (t : Nat)]) (n := 4) (rest := []) (restH := R) (off1 := 0) (n1 := (l ++ whB w t).length) (g1 := g')
    (evT_below X) Tryd.func21 hcode rfl ho hw.g hw.ids (by rw [hw.p]; rfl) (args_wh (i := 1) (args_flat rfl rfl (args_nil 3))) (by simp [Wh.pay, idsL, ids]) rfl rfl (by simp [gtag])
    (by rw [par21]; simpa [coerce, numbered] using hrun) (.inr he) (by show some [getF out.fr 6] = _; rw [q1]) q2 q3.g q3.ids (by rw [q3.p]; rfl) (.inr q3.tg) rfl rfl rfl
  rw [if_neg (by omega), q3.tg, hw.tg] at this
  exact this

/-- a number as it is written -/
def ui (i : Int) : Nat := (IntKind.u64.wrap i).toNat
theorem ui_eq (i : Int) : ((ui i : Nat) : Int) = IntKind.u64.wrap i := by
  unfold ui
  have : 0 ≤ IntKind.u64.wrap i := by
    unfold IntKind.wrap
    simp [IntKind.signed, IntKind.bits]
    exact Int.emod_nonneg _ (by decide)
  omega

/-- a value's bytes -/
def enV (v : Va) (t : Ty) : List UInt8 :=
  if v.k = 1 then leB (sizeN t.t) (ui v.i) else if v.k = 2 ∨ v.k = 3 ∨ v.k = 4 then leB (sizeN t.t) v.b else if v.k = 5 ∨ v.k = 6 then whB v.w t.t else if v.k = 7 then aT v.t else []
/-- may it be written? -/
def apOk (v : Va) (t : Ty) : Bool := decide (chkV v t = 0) && !(decide (v.k = 0) && decide (t.t ≠ 6))
def apV (b : List UInt8) (v : Va) (t : Ty) : List UInt8 × Int := if apOk v t then (b ++ enV v t, 0) else ([], 2)

theorem chk_ok {v : Va} {t : Ty} (h : chkV v t = 0) : v = {} ∨ okVa v t = true := by
  unfold chkV at h
  by_cases h1 : kindN t.t t.u < 0
  · rw [if_pos h1] at h; cases h
  rw [if_neg h1] at h
  by_cases h2 : v = {}
  · exact .inl h2
  rw [if_neg h2] at h
  cases h3 : okVa v t with
  | true => exact .inr rfl
  | false => rw [h3] at h; cases h

/-- what a value that may be holds -/
theorem ok_facts {v : Va} {t : Ty} (h : chkV v t = 0) : ((v.k = 1 ∨ v.k = 2 ∨ v.k = 3 ∨ v.k = 4) → 1 ≤ sizeN t.t ∧ sizeN t.t ≤ 8) ∧ ((v.k = 5 ∨ v.k = 6) → fin v.w t.t = true) ∧ (v.k = 7 → v.t.length ≤ 16777216) ∧ (v.k = 0 ∨ v.k = 1 ∨ v.k = 2 ∨ v.k = 3 ∨ v.k = 4 ∨ v.k = 5 ∨ v.k = 6 ∨ v.k = 7) := by
  rcases chk_ok h with rfl | h
  · refine ⟨fun h => ?_, fun h => ?_, fun h => ?_, .inl rfl⟩
    · exact absurd h (by decide)
    · exact absurd h (by decide)
    · exact absurd h (by decide)
  unfold okVa okVk at h
  by_cases k1 : v.k = 1
  · rw [if_pos k1] at h
    simp only [Bool.and_eq_true, decide_eq_true_eq] at h
    have := size_num (t := t.t) (u := t.u) (.inl h.1)
    exact ⟨fun _ => by omega, fun h => by omega, fun h => by omega, by omega⟩
  rw [if_neg k1] at h
  by_cases k2 : v.k = 2 ∨ v.k = 3 ∨ v.k = 4
  · rw [if_pos k2] at h
    simp only [Bool.and_eq_true, decide_eq_true_eq] at h
    have := size_num (t := t.t) (u := t.u) (by omega)
    exact ⟨fun _ => by omega, fun h => by omega, fun h => by omega, by omega⟩
  rw [if_neg k2] at h
  by_cases k5 : v.k = 5 ∨ v.k = 6
  · rw [if_pos k5] at h
    simp only [Bool.and_eq_true, decide_eq_true_eq] at h
    exact ⟨fun h => by omega, fun _ => h.2.2, fun h => by omega, by omega⟩
  rw [if_neg k5] at h
  by_cases k7 : v.k = 7
  · rw [if_pos k7] at h
    simp only [Bool.and_eq_true, decide_eq_true_eq] at h
    exact ⟨fun h => by omega, fun h => by omega, fun _ => h.2.2, by omega⟩
  rw [if_neg k7] at h
  cases h

section
variable (c : Nat) (b : List UInt8) (v : Va) (t : Ty)

set_option maxRecDepth 100000 in
set_option maxHeartbeats 4000000 in
theorem vappend_code (hc : c = 0 → b = []) (hb : b.length ≤ 30000000) (ht : t.t < 256) (hvb : v.b < 18446744073709551616) (hi : -9223372036854775808 ≤ v.i ∧ v.i < 9223372036854775808) : ∃ code, Tryd.f7.body = some code ∧
    Tells (Rets fun fr H => ∃ o g ob, getF fr 6 = .sl o 0 (apV b v t).1.length g ∧ getF fr 7 = .int .i64 (apV b v t).2 ∧ H[o]? = some (some ob) ∧ Rw (.pb (apV b v t).1) g ob) X (evT X) 7 0 code [(0, .ro c (.pb b) 1), (1, .agg v.pay), (2, .agg t.pay)] [] := by
  refine ⟨_, rfl, ?_⟩
  have hC := check_ev (v := v) (t := t) ht hvb hi [some (vaO v), some (tyO t), some nilB]
  apply Tells.seq (fr' := [(0, .ro c (.pb b) 1), (4, .ptr 0 0 0 0), (5, .ptr 1 0 0 0)]) (H' := [some (vaO v), some (tyO t), some nilB])
  · (refine ⟨0, ?_⟩; simp (maxSteps := 2000000) -implicitDefEqProofs [-getElem?_pos, List.getElem?_cons_zero, List.getElem?_cons_succ, go_sem, eqV, plen, loadV, storeV, vaO, tyO, Va.pay, Ty.pay, assignV, emB])
  apply Tells.assoc
  apply Tells.seq (fr' := [(0, .ro c (.pb b) 1), (4, .ptr 0 0 0 0), (5, .ptr 1 0 0 0), (8, .int .i64 (chkV v t))]) (H' := [some (vaO v), some (tyO t), some nilB])
  · simp only [vaO, tyO, Va.pay, Ty.pay] at hC
    generalize chkV v t = ck at *
    (refine ⟨0, ?_⟩; simp (maxSteps := 2000000) -implicitDefEqProofs [-getElem?_pos, List.getElem?_cons_zero, List.getElem?_cons_succ, go_sem, eqV, plen, loadV, storeV, vaO, tyO, Va.pay, Ty.pay, mkVa, mkTy, hC])
  clear hC
  unfold apV
  cases hok : apOk v t with
  | false =>
    rw [if_neg (by simp)]
    refine Tells.of (o := ⟨.ret, [(6, .sl 3 0 0 0), (7, .int .i64 2)], [some (vaO v), some (tyO t), some nilB, some nilB]⟩) ?_ ⟨rfl, 3, 0, nilB, rfl, rfl, rfl, nilB_rw⟩
    apply Run.seq_out (hne := by simp)
    apply Run.seq (fr' := [(0, .ro c (.pb b) 1), (4, .ptr 0 0 0 0), (5, .ptr 1 0 0 0), (24, .bool true)]) (H' := [some (vaO v), some (tyO t), some nilB])
    · unfold apOk at hok
      by_cases h0 : chkV v t = 0
      · rw [h0] at hok ⊢
        simp only [decide_true, Bool.true_and, Bool.not_eq_false', Bool.and_eq_true, decide_eq_true_eq] at hok
        obtain ⟨hk, h6⟩ := hok
        have h6b : ((t.t : Int) != 6) = true := by simp; omega
        (refine ⟨0, ?_⟩; simp (maxSteps := 2000000) -implicitDefEqProofs [-getElem?_pos, List.getElem?_cons_zero, List.getElem?_cons_succ, go_sem, eqV, plen, loadV, storeV, vaO, tyO, Va.pay, Ty.pay, hk, h6b])
      · have h0b : (chkV v t != 0) = true := by simpa using h0
        generalize chkV v t = ck at *
        (refine ⟨0, ?_⟩; simp (maxSteps := 2000000) -implicitDefEqProofs [-getElem?_pos, List.getElem?_cons_zero, List.getElem?_cons_succ, go_sem, eqV, plen, loadV, storeV, vaO, tyO, Va.pay, Ty.pay, h0b])
    refine ⟨0, ?_⟩
    simp (maxSteps := 2000000) -implicitDefEqProofs [-getElem?_pos, List.getElem?_cons_zero, List.getElem?_cons_succ, go_sem, eqV, plen, loadV, storeV, assignV, emB]
  | true =>
  rw [if_pos rfl]
  unfold apOk at hok
  simp only [Bool.and_eq_true, decide_eq_true_eq, Bool.not_eq_true', Bool.and_eq_false_iff, decide_eq_false_iff_not] at hok
  obtain ⟨h0, h06⟩ := hok
  obtain ⟨fs, ff, fl, fk⟩ := ok_facts h0
  rw [h0]
  apply Tells.seq (fr' := [(0, .ro c (.pb b) 1), (4, .ptr 0 0 0 0), (5, .ptr 1 0 0 0), (24, .bool false)]) (H' := [some (vaO v), some (tyO t), some nilB])
  · by_cases hk : v.k = 0
    · have h6 : t.t = 6 := by
        rcases h06 with h | h
        · exact absurd hk h
        · omega
      (refine ⟨0, ?_⟩; simp (maxSteps := 2000000) -implicitDefEqProofs [-getElem?_pos, List.getElem?_cons_zero, List.getElem?_cons_succ, go_sem, eqV, plen, loadV, storeV, vaO, tyO, Va.pay, Ty.pay, hk, h6])
    · have hkb : (v.k == 0) = false := by simpa using hk
      (refine ⟨0, ?_⟩; simp (maxSteps := 2000000) -implicitDefEqProofs [-getElem?_pos, List.getElem?_cons_zero, List.getElem?_cons_succ, go_sem, eqV, plen, loadV, storeV, vaO, tyO, Va.pay, Ty.pay, hkb])
  obtain ⟨ob0, hw0, hA0⟩ := clone_ev (H := [some (vaO v), some (tyO t), some nilB]) (a := .ro c (.pb b) 1) (b := b) (Byt.ro (.inl rfl) hc) (by omega)
  apply Tells.seq (fr' := [(4, .ptr 0 0 0 0), (5, .ptr 1 0 0 0), (9, .sl 3 0 b.length 0)]) (H' := [some (vaO v), some (tyO t), some nilB, some ob0])
  · simp only [vaO, tyO, Va.pay, Ty.pay] at hA0
    (refine ⟨0, ?_⟩; simp (maxSteps := 2000000) -implicitDefEqProofs [-getElem?_pos, List.getElem?_cons_zero, List.getElem?_cons_succ, go_sem, eqV, plen, loadV, storeV, vaO, tyO, Va.pay, Ty.pay, hA0, assignV])
  clear hA0
  have hS := size_ev' ht [some (vaO v), some (tyO t), some nilB, some ob0]
  have hre : reach [some (vaO v), some (tyO t), some nilB, some ob0] reachFuel [3] [] = [3] := reach_box rfl (by rw [hw0.p]; rfl)
  have hg0 := hw0.g
  have hp0 := hw0.p
  have hi0 := hw0.ids
  unfold enV
  rcases fk with kv | kv | kv | kv | kv | kv | kv | kv
  · -- nothing
    rw [if_neg (by omega), if_neg (by omega), if_neg (by omega), if_neg (by omega), List.append_nil]
    refine Tells.of (o := ⟨.ret, [(6, .sl 3 0 b.length 0), (7, .int .i64 0)], [some (vaO v), some (tyO t), some nilB, some ob0]⟩) ⟨0, ?_⟩ ⟨rfl, 3, 0, ob0, rfl, rfl, rfl, hw0⟩
    simp (maxSteps := 2000000) -implicitDefEqProofs [-getElem?_pos, List.getElem?_cons_zero, List.getElem?_cons_succ, go_sem, eqV, plen, loadV, storeV, vaO, Va.pay, kv, assignV]
  · -- a number with a sign
    rw [if_pos kv]
    obtain ⟨s1, s8⟩ := fs (.inl kv)
    generalize hsn : sizeN t.t = n at *
    obtain ⟨ob1, hw1, hF⟩ := vfixed_ev (H := [some (vaO v), some (tyO t), some nilB, some ob0]) (o := 3) (x := ui v.i) (n := n) (N := n) rfl hw0.rwt rfl (by omega) s1 s8
    have wu := (ui_eq v.i).symm
    refine Tells.of (o := ⟨.ret, [(6, .sl 3 0 (b.length + n) 1), (7, .int .i64 0)], [some (vaO v), some (tyO t), some nilB, some ob1]⟩) ?_ ⟨rfl, 3, 1, ob1, by simp [getF, leB_len], rfl, rfl, hw1.rw⟩
    apply Run.seq_out (hne := by simp)
    apply Run.seq (fr' := [(4, .ptr 0 0 0 0), (5, .ptr 1 0 0 0), (9, .sl 3 0 b.length 0), (28, .int .i64 1)]) (H' := [some (vaO v), some (tyO t), some nilB, some ob0])
    · (refine ⟨0, ?_⟩; simp (maxSteps := 2000000) -implicitDefEqProofs [-getElem?_pos, List.getElem?_cons_zero, List.getElem?_cons_succ, go_sem, eqV, plen, loadV, storeV, vaO, Va.pay, kv])
    refine Run.block ?_ (by simp)
    apply Run.seq (fr' := [(4, .ptr 0 0 0 0), (5, .ptr 1 0 0 0), (9, .sl 3 0 b.length 0), (28, .int .i64 1), (29, .bool true)]) (H' := [some (vaO v), some (tyO t), some nilB, some ob0])
    · (refine ⟨0, ?_⟩; simp (maxSteps := 2000000) -implicitDefEqProofs [-getElem?_pos, List.getElem?_cons_zero, List.getElem?_cons_succ, go_sem, eqV, plen, loadV, storeV])
    refine condT (by simp [evalO, getF]) ?_
    apply Run.seq (fr' := [(6, .sl 3 0 (b.length + n) 1), (7, .int .i64 0)]) (H' := [some (vaO v), some (tyO t), some nilB, some ob1])
    · simp only [vaO, tyO, Va.pay, Ty.pay] at hS hF hre
      apply Run.dy (by simp) keep7_7 (by simp)
      · (conv => lhs; simp (maxSteps := 2000000) -implicitDefEqProofs [-getElem?_pos, List.getElem?_cons_zero, List.getElem?_cons_succ, go_sem, eqV, plen, loadV, storeV, runD, out1, markOf, freeO, quietO, pushes, isAssign, calledV, touched, mentioned, opVals, touchCall, mentionCall, idsAt, Op.operands, ids, idsL, lendArgs, lendV, lend1, lendL, eqH_self, vaO, tyO, Va.pay, Ty.pay, wu, hS, hF, upd, assignV, reach_none, hre, hg0, hi0, hp0])
        rfl
      · kernel_rfl
      · rfl
    exact ⟨0, rfl⟩
  · -- bits
    rw [if_neg (by omega), if_pos (by omega)]
    obtain ⟨s1, s8⟩ := fs (by omega)
    generalize hsn : sizeN t.t = n at *
    obtain ⟨ob1, hw1, hF⟩ := vfixed_ev (H := [some (vaO v), some (tyO t), some nilB, some ob0]) (o := 3) (x := v.b) (n := n) (N := n) rfl hw0.rwt rfl (by omega) s1 s8
    refine Tells.of (o := ⟨.ret, [(6, .sl 3 0 (b.length + n) 1), (7, .int .i64 0)], [some (vaO v), some (tyO t), some nilB, some ob1]⟩) ?_ ⟨rfl, 3, 1, ob1, by simp [getF, leB_len], rfl, rfl, hw1.rw⟩
    apply Run.seq_out (hne := by simp)
    apply Run.seq (fr' := [(4, .ptr 0 0 0 0), (5, .ptr 1 0 0 0), (9, .sl 3 0 b.length 0), (28, .int .i64 2)]) (H' := [some (vaO v), some (tyO t), some nilB, some ob0])
    · (refine ⟨0, ?_⟩; simp (maxSteps := 2000000) -implicitDefEqProofs [-getElem?_pos, List.getElem?_cons_zero, List.getElem?_cons_succ, go_sem, eqV, plen, loadV, storeV, vaO, Va.pay, kv])
    refine Run.block ?_ (by simp)
    apply Run.seq (fr' := [(4, .ptr 0 0 0 0), (5, .ptr 1 0 0 0), (9, .sl 3 0 b.length 0), (28, .int .i64 2), (29, .bool false)]) (H' := [some (vaO v), some (tyO t), some nilB, some ob0])
    · (refine ⟨0, ?_⟩; simp (maxSteps := 2000000) -implicitDefEqProofs [-getElem?_pos, List.getElem?_cons_zero, List.getElem?_cons_succ, go_sem, eqV, plen, loadV, storeV])
    refine condF (by simp [evalO, getF]) ?_
    apply Run.seq (fr' := [(4, .ptr 0 0 0 0), (5, .ptr 1 0 0 0), (9, .sl 3 0 b.length 0), (28, .int .i64 2), (39, .bool true)]) (H' := [some (vaO v), some (tyO t), some nilB, some ob0])
    · (refine ⟨0, ?_⟩; simp (maxSteps := 2000000) -implicitDefEqProofs [-getElem?_pos, List.getElem?_cons_zero, List.getElem?_cons_succ, go_sem, eqV, plen, loadV, storeV])
    refine condT (by simp [evalO, getF]) ?_
    apply Run.seq (fr' := [(6, .sl 3 0 (b.length + n) 1), (7, .int .i64 0)]) (H' := [some (vaO v), some (tyO t), some nilB, some ob1])
    · simp only [vaO, tyO, Va.pay, Ty.pay] at hS hF hre
      apply Run.dy (by simp) keep7_11 (by simp)
      · (conv => lhs; simp (maxSteps := 2000000) -implicitDefEqProofs [-getElem?_pos, List.getElem?_cons_zero, List.getElem?_cons_succ, go_sem, eqV, plen, loadV, storeV, runD, out1, markOf, freeO, quietO, pushes, isAssign, calledV, touched, mentioned, opVals, touchCall, mentionCall, idsAt, Op.operands, ids, idsL, lendArgs, lendV, lend1, lendL, eqH_self, vaO, tyO, Va.pay, Ty.pay, hS, hF, upd, assignV, reach_none, hre, hg0, hi0, hp0])
        rfl
      · kernel_rfl
      · rfl
    exact ⟨0, rfl⟩
  · -- bits
    rw [if_neg (by omega), if_pos (by omega)]
    obtain ⟨s1, s8⟩ := fs (by omega)
    generalize hsn : sizeN t.t = n at *
    obtain ⟨ob1, hw1, hF⟩ := vfixed_ev (H := [some (vaO v), some (tyO t), some nilB, some ob0]) (o := 3) (x := v.b) (n := n) (N := n) rfl hw0.rwt rfl (by omega) s1 s8
    refine Tells.of (o := ⟨.ret, [(6, .sl 3 0 (b.length + n) 1), (7, .int .i64 0)], [some (vaO v), some (tyO t), some nilB, some ob1]⟩) ?_ ⟨rfl, 3, 1, ob1, by simp [getF, leB_len], rfl, rfl, hw1.rw⟩
    apply Run.seq_out (hne := by simp)
    apply Run.seq (fr' := [(4, .ptr 0 0 0 0), (5, .ptr 1 0 0 0), (9, .sl 3 0 b.length 0), (28, .int .i64 3)]) (H' := [some (vaO v), some (tyO t), some nilB, some ob0])
    · (refine ⟨0, ?_⟩; simp (maxSteps := 2000000) -implicitDefEqProofs [-getElem?_pos, List.getElem?_cons_zero, List.getElem?_cons_succ, go_sem, eqV, plen, loadV, storeV, vaO, Va.pay, kv])
    refine Run.block ?_ (by simp)
    apply Run.seq (fr' := [(4, .ptr 0 0 0 0), (5, .ptr 1 0 0 0), (9, .sl 3 0 b.length 0), (28, .int .i64 3), (29, .bool false)]) (H' := [some (vaO v), some (tyO t), some nilB, some ob0])
    · (refine ⟨0, ?_⟩; simp (maxSteps := 2000000) -implicitDefEqProofs [-getElem?_pos, List.getElem?_cons_zero, List.getElem?_cons_succ, go_sem, eqV, plen, loadV, storeV])
    refine condF (by simp [evalO, getF]) ?_
    apply Run.seq (fr' := [(4, .ptr 0 0 0 0), (5, .ptr 1 0 0 0), (9, .sl 3 0 b.length 0), (28, .int .i64 3), (39, .bool true)]) (H' := [some (vaO v), some (tyO t), some nilB, some ob0])
    · (refine ⟨0, ?_⟩; simp (maxSteps := 2000000) -implicitDefEqProofs [-getElem?_pos, List.getElem?_cons_zero, List.getElem?_cons_succ, go_sem, eqV, plen, loadV, storeV])
    refine condT (by simp [evalO, getF]) ?_
    apply Run.seq (fr' := [(6, .sl 3 0 (b.length + n) 1), (7, .int .i64 0)]) (H' := [some (vaO v), some (tyO t), some nilB, some ob1])
    · simp only [vaO, tyO, Va.pay, Ty.pay] at hS hF hre
      apply Run.dy (by simp) keep7_11 (by simp)
      · (conv => lhs; simp (maxSteps := 2000000) -implicitDefEqProofs [-getElem?_pos, List.getElem?_cons_zero, List.getElem?_cons_succ, go_sem, eqV, plen, loadV, storeV, runD, out1, markOf, freeO, quietO, pushes, isAssign, calledV, touched, mentioned, opVals, touchCall, mentionCall, idsAt, Op.operands, ids, idsL, lendArgs, lendV, lend1, lendL, eqH_self, vaO, tyO, Va.pay, Ty.pay, hS, hF, upd, assignV, reach_none, hre, hg0, hi0, hp0])
        rfl
      · kernel_rfl
      · rfl
    exact ⟨0, rfl⟩
  · -- bits
    rw [if_neg (by omega), if_pos (by omega)]
    obtain ⟨s1, s8⟩ := fs (by omega)
    generalize hsn : sizeN t.t = n at *
    obtain ⟨ob1, hw1, hF⟩ := vfixed_ev (H := [some (vaO v), some (tyO t), some nilB, some ob0]) (o := 3) (x := v.b) (n := n) (N := n) rfl hw0.rwt rfl (by omega) s1 s8
    refine Tells.of (o := ⟨.ret, [(6, .sl 3 0 (b.length + n) 1), (7, .int .i64 0)], [some (vaO v), some (tyO t), some nilB, some ob1]⟩) ?_ ⟨rfl, 3, 1, ob1, by simp [getF, leB_len], rfl, rfl, hw1.rw⟩
    apply Run.seq_out (hne := by simp)
    apply Run.seq (fr' := [(4, .ptr 0 0 0 0), (5, .ptr 1 0 0 0), (9, .sl 3 0 b.length 0), (28, .int .i64 4)]) (H' := [some (vaO v), some (tyO t), some nilB, some ob0])
    · (refine ⟨0, ?_⟩; simp (maxSteps := 2000000) -implicitDefEqProofs [-getElem?_pos, List.getElem?_cons_zero, List.getElem?_cons_succ, go_sem, eqV, plen, loadV, storeV, vaO, Va.pay, kv])
    refine Run.block ?_ (by simp)
    apply Run.seq (fr' := [(4, .ptr 0 0 0 0), (5, .ptr 1 0 0 0), (9, .sl 3 0 b.length 0), (28, .int .i64 4), (29, .bool false)]) (H' := [some (vaO v), some (tyO t), some nilB, some ob0])
    · (refine ⟨0, ?_⟩; simp (maxSteps := 2000000) -implicitDefEqProofs [-getElem?_pos, List.getElem?_cons_zero, List.getElem?_cons_succ, go_sem, eqV, plen, loadV, storeV])
    refine condF (by simp [evalO, getF]) ?_
    apply Run.seq (fr' := [(4, .ptr 0 0 0 0), (5, .ptr 1 0 0 0), (9, .sl 3 0 b.length 0), (28, .int .i64 4), (39, .bool true)]) (H' := [some (vaO v), some (tyO t), some nilB, some ob0])
    · (refine ⟨0, ?_⟩; simp (maxSteps := 2000000) -implicitDefEqProofs [-getElem?_pos, List.getElem?_cons_zero, List.getElem?_cons_succ, go_sem, eqV, plen, loadV, storeV])
    refine condT (by simp [evalO, getF]) ?_
    apply Run.seq (fr' := [(6, .sl 3 0 (b.length + n) 1), (7, .int .i64 0)]) (H' := [some (vaO v), some (tyO t), some nilB, some ob1])
    · simp only [vaO, tyO, Va.pay, Ty.pay] at hS hF hre
      apply Run.dy (by simp) keep7_11 (by simp)
      · (conv => lhs; simp (maxSteps := 2000000) -implicitDefEqProofs [-getElem?_pos, List.getElem?_cons_zero, List.getElem?_cons_succ, go_sem, eqV, plen, loadV, storeV, runD, out1, markOf, freeO, quietO, pushes, isAssign, calledV, touched, mentioned, opVals, touchCall, mentionCall, idsAt, Op.operands, ids, idsL, lendArgs, lendV, lend1, lendL, eqH_self, vaO, tyO, Va.pay, Ty.pay, hS, hF, upd, assignV, reach_none, hre, hg0, hi0, hp0])
        rfl
      · kernel_rfl
      · rfl
    exact ⟨0, rfl⟩
  · -- a moment, a span
    rw [if_neg (by omega), if_neg (by omega), if_pos (by omega)]
    obtain ⟨ob1, hw1, hF⟩ := when_ev (H := [some (vaO v), some (tyO t), some nilB, some ob0]) (o := 3) rfl hw0.rwt (by omega) ht (ff (by omega))
    refine Tells.of (o := ⟨.ret, [(6, .sl 3 0 (b ++ whB v.w t.t).length 1), (7, .int .i64 0)], [some (vaO v), some (tyO t), some nilB, some ob1]⟩) ?_ ⟨rfl, 3, 1, ob1, rfl, rfl, rfl, hw1.rw⟩
    apply Run.seq_out (hne := by simp)
    simp only [vaO, tyO, Va.pay, Ty.pay, Wh.pay] at hF
    rw [kv] at hF
    generalize (b ++ whB v.w t.t).length = n at *
    refine ⟨0, ?_⟩
    simp (maxSteps := 2000000) -implicitDefEqProofs [-getElem?_pos, List.getElem?_cons_zero, List.getElem?_cons_succ, go_sem, eqV, plen, loadV, storeV, vaO, tyO, Va.pay, Ty.pay, kv, mkWh, hF, upd, assignV]
  · -- a moment, a span
    rw [if_neg (by omega), if_neg (by omega), if_pos (by omega)]
    obtain ⟨ob1, hw1, hF⟩ := when_ev (H := [some (vaO v), some (tyO t), some nilB, some ob0]) (o := 3) rfl hw0.rwt (by omega) ht (ff (by omega))
    refine Tells.of (o := ⟨.ret, [(6, .sl 3 0 (b ++ whB v.w t.t).length 1), (7, .int .i64 0)], [some (vaO v), some (tyO t), some nilB, some ob1]⟩) ?_ ⟨rfl, 3, 1, ob1, rfl, rfl, rfl, hw1.rw⟩
    apply Run.seq_out (hne := by simp)
    simp only [vaO, tyO, Va.pay, Ty.pay, Wh.pay] at hF
    rw [kv] at hF
    generalize (b ++ whB v.w t.t).length = n at *
    refine ⟨0, ?_⟩
    simp (maxSteps := 2000000) -implicitDefEqProofs [-getElem?_pos, List.getElem?_cons_zero, List.getElem?_cons_succ, go_sem, eqV, plen, loadV, storeV, vaO, tyO, Va.pay, Ty.pay, kv, mkWh, hF, upd, assignV]
  · -- a text
    rw [if_neg (by omega), if_neg (by omega), if_neg (by omega), if_pos kv]
    obtain ⟨ob1, hw1, hA⟩ := appendText_ev (H := [some (vaO v), some (tyO t), some nilB, some ob0]) (a := .sl 3 0 b.length 0) (b := b) (s := v.t) (Byt.whole rfl hw0) (by omega) (by have := fl kv; omega)
    refine Tells.of (o := ⟨.ret, [(6, .sl 4 0 (b ++ aT v.t).length 0), (7, .int .i64 0)], [some (vaO v), some (tyO t), some nilB, some ob0, some ob1]⟩) ?_ ⟨rfl, 4, 0, ob1, rfl, rfl, rfl, hw1⟩
    apply Run.seq_out (hne := by simp)
    simp only [vaO, tyO, Va.pay, Ty.pay] at hA
    rw [kv] at hA
    generalize (b ++ aT v.t).length = n at *
    refine ⟨0, ?_⟩
    simp (maxSteps := 2000000) -implicitDefEqProofs [-getElem?_pos, List.getElem?_cons_zero, List.getElem?_cons_succ, go_sem, eqV, plen, loadV, storeV, vaO, tyO, Va.pay, Ty.pay, kv, hA, assignV]

end

theorem vappend_ev {H : AM.Heap} {a : AV} {b : List UInt8} {v : Va} {t : Ty} (h : Byt H a b) (hb : b.length ≤ 30000000) (ht : t.t < 256) (hvb : v.b < 18446744073709551616) (hi : -9223372036854775808 ≤ v.i ∧ v.i < 9223372036854775808) :
    ∃ ob, Rw (.pb (apV b v t).1) 0 ob ∧ evT X 7 [a, .agg v.pay, .agg t.pay] H = some (.tup [.sl H.length 0 (apV b v t).1.length 0, .int .i64 (apV b v t).2], H ++ [some ob]) := by
  obtain ⟨c, p, xl, hp, hc, hx'⟩ := args_byt (C := X) (f := 7) (i := 0) rfl h (args_va (f := 7) (i := 1) (v := v) (args_ty (i := 2) (t := t) (args_nil 3)))
  obtain ⟨code, hcode, hr⟩ := vappend_code c b v t hc hb ht hvb hi
  obtain ⟨ob, q1, q2⟩ := Ev1.newB (H := H) (n := (apV b v t).1.length) (l := (apV b v t).1) (rest := [.int .i64 (apV b v t).2]) (evT_below X) Tryd.func7 hcode hx' (by simp [Va.pay, Ty.pay, idsL, ids, hp.ids]) (by simp [gtag]) rfl rfl rfl (by
    obtain ⟨o, ⟨he, o1, g, ob, q1, q2, q3, q4⟩, hrun⟩ := hr
    exact ⟨o, ⟨he, o1, g, ob, by show some [getF o.fr 6, getF o.fr 7] = _; rw [q1, q2], q3, q4⟩, by rw [par7, coB hp]; exact hrun⟩)
  exact ⟨ob, q1, evT_eq q2⟩

end Go.Proofs.YtifgkkfchnfcaaaDoor

/- Walks: Text. -/
namespace Go.Proofs.YtifgkkfchnfcaaaDoor
open Go.AM
set_option linter.unusedSimpArgs false
set_option linter.unusedVariables false

theorem fin_wok {w : Wh} {t : Nat} (h : fin w t = true) : WOk w := by
  have h2 := fin_nn h
  have hc : clk w = true := by
    unfold fin at h
    simp only [Bool.and_eq_true] at h
    exact h.1
  unfold clk btw at hc
  simp only [Bool.and_eq_true, decide_eq_true_eq] at hc
  exact ⟨by omega, by omega, by omega, by omega, by omega, by omega, by omega⟩

theorem ok_kd {v : Va} {t : Ty} (h : chkV v t = 0) (hk : v.k ≠ 0) : v.k = kindN t.t t.u := by
  rcases chk_ok h with rfl | h
  · exact absurd rfl hk
  · unfold okVa okVk at h
    split at h
    · rename_i h1; simp only [Bool.and_eq_true, decide_eq_true_eq] at h; omega
    split at h
    · simp only [Bool.and_eq_true, decide_eq_true_eq] at h; omega
    split at h
    · simp only [Bool.and_eq_true, decide_eq_true_eq] at h; omega
    split at h
    · simp only [Bool.and_eq_true, decide_eq_true_eq] at h; omega
    · cases h
theorem kd_time {t : Nat} {u : Bool} (h : kindN t u = 6) : t = 11 := by
  unfold kindN at h
  by_cases h11 : t = 11
  · exact h11
  · exfalso
    revert h
    repeat' split
    all_goals omega
theorem kd_date {t : Nat} {u : Bool} (h : kindN t u = 5) : t ≠ 11 := by
  rintro rfl
  unfold kindN at h
  revert h
  repeat' split
  all_goals omega

/-- a value's text -/
def vtX (v : Va) (t : Ty) : List UInt8 × Int := if chkV v t ≠ 0 then ([], 2) else if v.k = 1 then (intB v.i, 0) else if v.k = 2 then (decB v.b, 0) else if v.k = 5 ∨ v.k = 6 then (wtB v.w t.t, 0) else if v.k = 7 then (v.t, 0) else ([], 2)

theorem chk_two {v : Va} {t : Ty} (h : chkV v t ≠ 0) : chkV v t = 2 := by
  unfold chkV at h ⊢
  repeat' split
  all_goals first | rfl | (exfalso; simp_all)

section
variable (v : Va) (t : Ty)

set_option maxRecDepth 100000 in
set_option maxHeartbeats 8000000 in
theorem text_code (ht : t.t < 256) (hb : v.b < 18446744073709551616) (hi : -9223372036854775808 ≤ v.i ∧ v.i < 9223372036854775808) : ∃ code, Tryd.f10.body = some code ∧
    Tells (Rets fun fr H => getF fr 4 = .str (vtX v t).1 ∧ getF fr 5 = .int .i64 (vtX v t).2) X (evT X) 10 0 code [(0, .agg v.pay), (1, .agg t.pay)] [] := by
  refine ⟨_, rfl, ?_⟩
  have hC := fun H => check_ev (v := v) (t := t) ht hb hi H
  apply Tells.seq (fr' := [(2, .ptr 0 0 0 0), (3, .ptr 1 0 0 0)]) (H' := [some (vaO v), some (tyO t)])
  · unfold vaO tyO
    simp only [Va.pay, Ty.pay]
    (refine ⟨0, ?_⟩; simp (maxSteps := 2000000) -implicitDefEqProofs [-getElem?_pos, List.getElem?_cons_zero, List.getElem?_cons_succ, go_sem, eqV, plen, loadV, storeV])
  apply Tells.assoc
  apply Tells.seq (fr' := [(2, .ptr 0 0 0 0), (3, .ptr 1 0 0 0), (6, .int .i64 (chkV v t))]) (H' := [some (vaO v), some (tyO t)])
  · simp only [Va.pay, Ty.pay] at hC
    (refine ⟨0, ?_⟩; simp (maxSteps := 2000000) -implicitDefEqProofs [-getElem?_pos, List.getElem?_cons_zero, List.getElem?_cons_succ, go_sem, eqV, plen, loadV, storeV, vaO, tyO, Va.pay, Ty.pay, mkVa, mkTy, hC])
  clear hC
  by_cases hc : chkV v t ≠ 0
  · rw [show vtX v t = ([], 2) by unfold vtX; rw [if_pos hc], chk_two hc]
    refine Tells.of (o := ⟨.ret, [(4, .str []), (5, .int .i64 2)], [some (vaO v), some (tyO t)]⟩) ⟨0, ?_⟩ ⟨rfl, rfl, rfl⟩
    simp (maxSteps := 2000000) -implicitDefEqProofs [-getElem?_pos, List.getElem?_cons_zero, List.getElem?_cons_succ, go_sem, eqV, plen, loadV, storeV]
  have hc0 : chkV v t = 0 := by simpa using hc
  have htx : vtX v t = if v.k = 1 then (intB v.i, 0) else if v.k = 2 then (decB v.b, 0) else if v.k = 5 ∨ v.k = 6 then (wtB v.w t.t, 0) else if v.k = 7 then (v.t, 0) else ([], 2) := by unfold vtX; rw [if_neg hc]
  obtain ⟨_, ff, _, fk⟩ := ok_facts hc0
  rw [hc0, htx]
  apply Tells.assoc
  apply Tells.seq (fr' := [(2, .ptr 0 0 0 0), (3, .ptr 1 0 0 0), (6, .int .i64 0), (11, .bool false)]) (H' := [some (vaO v), some (tyO t)])
  · (refine ⟨0, ?_⟩; simp (maxSteps := 2000000) -implicitDefEqProofs [-getElem?_pos, List.getElem?_cons_zero, List.getElem?_cons_succ, go_sem, eqV, plen, loadV, storeV])
  apply Tells.seq (fr' := [(2, .ptr 0 0 0 0), (3, .ptr 1 0 0 0), (6, .int .i64 0), (11, .bool false)]) (H' := [some (vaO v), some (tyO t)])
  · exact Run.cond (d := false) rfl ⟨0, rfl⟩
  by_cases k1 : v.k = 1
  · rw [if_pos k1]
    have hF := fun H => sfmtI_ev (H := H) hi.1 hi.2
    refine Tells.of (o := ⟨.ret, [(4, .str (intB v.i)), (5, .int .i64 0)], [some (vaO v), some (tyO t)]⟩) ⟨0, ?_⟩ ⟨rfl, rfl, rfl⟩
    simp (maxSteps := 2000000) -implicitDefEqProofs [-getElem?_pos, List.getElem?_cons_zero, List.getElem?_cons_succ, go_sem, eqV, plen, loadV, storeV, vaO, tyO, Va.pay, Ty.pay, k1, hF]
  rw [if_neg k1]
  by_cases k2 : v.k = 2
  · rw [if_pos k2]
    have hF := fun H => sfmtU_ev (H := H) hb
    refine Tells.of (o := ⟨.ret, [(4, .str (decB v.b)), (5, .int .i64 0)], [some (vaO v), some (tyO t)]⟩) ⟨0, ?_⟩ ⟨rfl, rfl, rfl⟩
    simp (maxSteps := 2000000) -implicitDefEqProofs [-getElem?_pos, List.getElem?_cons_zero, List.getElem?_cons_succ, go_sem, eqV, plen, loadV, storeV, vaO, tyO, Va.pay, Ty.pay, k2, hF]
  rw [if_neg k2]
  by_cases k5 : v.k = 5 ∨ v.k = 6
  · rw [if_pos k5]
    have hF := fun H => wt_ev (H := H) (w := v.w) ht (fin_wok (ff k5))
    refine Tells.of (o := ⟨.ret, [(4, .str (wtB v.w t.t)), (5, .int .i64 0)], [some (vaO v), some (tyO t)]⟩) ⟨0, ?_⟩ ⟨rfl, rfl, rfl⟩
    simp only [Wh.pay] at hF
    rcases k5 with k5 | k5
    · simp (maxSteps := 2000000) -implicitDefEqProofs [-getElem?_pos, List.getElem?_cons_zero, List.getElem?_cons_succ, go_sem, eqV, plen, loadV, storeV, vaO, tyO, Va.pay, Ty.pay, k5, mkWh, hF]
    · simp (maxSteps := 2000000) -implicitDefEqProofs [-getElem?_pos, List.getElem?_cons_zero, List.getElem?_cons_succ, go_sem, eqV, plen, loadV, storeV, vaO, tyO, Va.pay, Ty.pay, k5, mkWh, hF]
  rw [if_neg k5]
  by_cases k7 : v.k = 7
  · rw [if_pos k7]
    refine Tells.of (o := ⟨.ret, [(4, .str v.t), (5, .int .i64 0)], [some (vaO v), some (tyO t)]⟩) ⟨0, ?_⟩ ⟨rfl, rfl, rfl⟩
    simp (maxSteps := 2000000) -implicitDefEqProofs [-getElem?_pos, List.getElem?_cons_zero, List.getElem?_cons_succ, go_sem, eqV, plen, loadV, storeV, vaO, tyO, Va.pay, Ty.pay, k7]
  rw [if_neg k7]
  have k5' : v.k ≠ 5 := fun h => k5 (.inl h)
  have k6' : v.k ≠ 6 := fun h => k5 (.inr h)
  refine Tells.of (o := ⟨.ret, [(4, .str []), (5, .int .i64 2)], [some (vaO v), some (tyO t)]⟩) ⟨0, ?_⟩ ⟨rfl, rfl, rfl⟩
  have b1 : (v.k == 1) = false := by simpa using k1
  have b2 : (v.k == 2) = false := by simpa using k2
  have b5 : (v.k == 5) = false := by simpa using k5'
  have b6 : (v.k == 6) = false := by simpa using k6'
  have b7 : (v.k == 7) = false := by simpa using k7
  simp (maxSteps := 2000000) -implicitDefEqProofs [-getElem?_pos, List.getElem?_cons_zero, List.getElem?_cons_succ, go_sem, eqV, plen, loadV, storeV, vaO, tyO, Va.pay, Ty.pay, k1, k2, k5', k6', k7, b1, b2, b5, b6, b7]

end

theorem text_ev {H : AM.Heap} {v : Va} {t : Ty} (ht : t.t < 256) (hb : v.b < 18446744073709551616) (hi : -9223372036854775808 ≤ v.i ∧ v.i < 9223372036854775808) :
    evT X 10 [.agg v.pay, .agg t.pay] H = some (.tup [.str (vtX v t).1, .int .i64 (vtX v t).2], H) := by
  obtain ⟨code, hcode, o, ⟨he, h4, h5⟩, hr⟩ := text_code v t ht hb hi
  exact evT_eq (Ev1.toldP (l := [.str (vtX v t).1, .int .i64 (vtX v t).2]) (evT_below X) Tryd.func10 hcode (args_va (i := 0) (args_ty (i := 1) (args_nil 2))) (by simp [Va.pay, Ty.pay, idsL, ids]) (by simp [gtag]) rfl rfl rfl ⟨o, ⟨he, by show some [getF o.fr 4, getF o.fr 5] = _; rw [h4, h5]⟩, hr⟩)

end Go.Proofs.YtifgkkfchnfcaaaDoor
