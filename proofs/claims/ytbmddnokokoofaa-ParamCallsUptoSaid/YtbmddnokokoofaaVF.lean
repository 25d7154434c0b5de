/- Walks: what the document's execute says. -/
import Derived.Test.YtbmddnokokoofaaVD
import Derived.Test.YtbmddnokokoofaaVC
namespace Go.Proofs.Ytbmddnokokoofaa
open Go.AM
set_option linter.unusedSimpArgs false
set_option linter.unusedVariables false

section
variable (c : Nat) (b : List UInt8) (d : Nat) (l : List Pm) (bd : Bool) (m8 : Nat)

/-- a round's frame -/
def r2Fr (i o : Nat) : AM.Frame := [(0, .ro c (.pb b) 1), (1, .ro d (.pr 15 (l.map Pm.pay)) 2), (2, .bool bd), (8, .sl 1 0 m8 0), (9, .sl 2 0 (tysB (l.take i)).length i), (10, .sl o 0 (restB (l.take i)).length 0), (11, .int .i64 (i : Nat))]
/-- a frame within a round -/
def r2Fb (i o : Nat) (T x12 : AV) (t : Nat) : AM.Frame := [(0, .ro c (.pb b) 1), (1, .ro d (.pr 15 (l.map Pm.pay)) 2), (2, .bool bd), (8, .sl 1 0 m8 0), (9, T), (10, .sl o 0 (restB (l.take i)).length 0), (11, .int .i64 (i : Nat)), (12, x12)] ++ (if t = 0 then [] else [(13, .int .u8 ((t - 1 : Nat) : Int))])
/-- behind a round's choice -/
def r2Fc (i o : Nat) (tl : AM.Frame) : AM.Frame := [(0, .ro c (.pb b) 1), (1, .ro d (.pr 15 (l.map Pm.pay)) 2), (2, .bool bd), (8, .sl 1 0 m8 0), (9, .sl 2 0 (tysB (l.take (i + 1))).length (i + 1)), (10, .sl o 0 (restB (l.take (i + 1))).length 0), (11, .int .i64 (i : Nat))] ++ tl

set_option maxRecDepth 100000 in
set_option maxHeartbeats 4000000 in
/-- a round: the parameter's own place, its check -/
theorem r2_chk (ob0 : AM.Obj) (i o : Nat) (p : Pm) (H : AM.Heap) (hn : l.length ≤ 65535) (hp : l[i]? = some p) (ho : p.ok) (Q : AM.Out → Prop)
    (h : ∀ code' code2, ((Try.f14.body).bind (codeAt [1, 1, 1, 1, 0, 1, 0, 0, 1, 0, 0, 1, 0, 1])) = some code' → ((Try.f14.body).bind (codeAt [1, 1, 1, 1, 0, 1, 0, 0, 1, 0, 0, 1, 1])) = some code2 → Tells Q X (evT X) 14 0 (.seq code' code2) (r2Fb c b d l bd m8 i o (.sl 2 0 (tysB (l.take i)).length i) (.ptr H.length 0 0 0) 0 ++ [(48, .bool p.bad)]) (H ++ [some (pmO p)])) :
    ∃ code, ((Try.f14.body).bind (codeAt [1, 1, 1, 1, 0, 1, 0, 0, 1, 0, 0])) = some code ∧ Tells Q X (evT X) 14 0 code (r2Fr c b d l bd m8 i o ++ [(26, .bool true)]) H := by
  refine ⟨_, rfl, ?_⟩
  obtain ⟨o1, o2, o3⟩ := ho
  have hrow : (l.map Pm.pay)[i]? = some p.pay := by rw [List.getElem?_map, hp]; rfl
  have hLl : (l.map Pm.pay).length = l.length := List.length_map _
  have hlt : i < l.length := at_lt hp
  have hnew : ∀ x : Option AM.Obj, (H ++ [x])[H.length]? = some x := fun x => by simp
  unfold r2Fr
  apply Tells.seq (fr' := r2Fb c b d l bd m8 i o (.sl 2 0 (tysB (l.take i)).length i) (.ptr H.length 0 0 0) 0) (H' := H ++ [some (pmO p)])
  · unfold r2Fb
    generalize l.map Pm.pay = L at *
    simp only [Pm.pay] at hrow
    (refine ⟨0, ?_⟩; simp (maxSteps := 2000000) -implicitDefEqProofs [-getElem?_pos, List.getElem?_cons_zero, List.getElem?_cons_succ, go_sem, eqV, plen, loadV, storeV, hlt, hLl, hrow, pmO, Pm.pay, retagL, retag, retagP, flatCells, splice, scalars, scalar, hnew, mkPm, mkVa, mkTy, assignV])
  apply Tells.assoc
  apply Tells.seq (fr' := r2Fb c b d l bd m8 i o (.sl 2 0 (tysB (l.take i)).length i) (.ptr H.length 0 0 0) 0 ++ [(48, .bool p.bad)]) (H' := H ++ [some (pmO p)])
  · have hC := rcheck_ev (v := p.v) (t := p.t) o1 (H ++ [some (pmO p)])
    simp only [pmO, Pm.pay, Va.pay, Ty.pay] at hC
    unfold Pm.bad
    by_cases h0 : chkV p.v p.t = 0
    · rw [h0] at hC ⊢
      cases hlg : p.lg with
      | false =>
        rw [hlg] at hC
        (refine ⟨0, ?_⟩; simp (maxSteps := 2000000) -implicitDefEqProofs [-getElem?_pos, List.getElem?_cons_zero, List.getElem?_cons_succ, go_sem, eqV, plen, loadV, storeV, r2Fb, pmO, Pm.pay, hnew, mkVa, mkTy, hC, hlg])
      | true =>
        rw [hlg] at hC
        by_cases hk : p.v.k = 0
        · rw [hk] at hC
          (refine ⟨0, ?_⟩; simp (maxSteps := 2000000) -implicitDefEqProofs [-getElem?_pos, List.getElem?_cons_zero, List.getElem?_cons_succ, go_sem, eqV, plen, loadV, storeV, r2Fb, pmO, Pm.pay, hnew, mkVa, mkTy, hC, hlg, hk])
        · have hkb : (p.v.k != 0) = true := by simpa using hk
          (refine ⟨0, ?_⟩; simp (maxSteps := 2000000) -implicitDefEqProofs [-getElem?_pos, List.getElem?_cons_zero, List.getElem?_cons_succ, go_sem, eqV, plen, loadV, storeV, r2Fb, pmO, Pm.pay, hnew, mkVa, mkTy, hC, hlg, hkb, hk])
    · have h0b : (chkV p.v p.t != 0) = true := by simpa using h0
      generalize chkV p.v p.t = ck at *
      (refine ⟨0, ?_⟩; simp (maxSteps := 2000000) -implicitDefEqProofs [-getElem?_pos, List.getElem?_cons_zero, List.getElem?_cons_succ, go_sem, eqV, plen, loadV, storeV, r2Fb, pmO, Pm.pay, hnew, mkVa, mkTy, hC, h0b, h0])
  exact h _ _ rfl rfl

set_option maxRecDepth 100000 in
set_option maxHeartbeats 4000000 in
/-- a round: its sign, its type -/
theorem r2_ty (ob0 : AM.Obj) (i o k : Nat) (p : Pm) (H : AM.Heap) (hn : l.length ≤ 65535) (hp : l[i]? = some p) (ho : p.ok) (hH : p2Hp l 0 m8 ob0 i o i H) (h4 : H[k]? = some (some (pmO p))) (hk : 3 ≤ k) (Q : AM.Out → Prop)
    (next : ∀ H' obT obr, H'[0]? = some (some ob0) → H'[1]? = some (some (bitO m8 (bitN (nulP l) 0 (zer m8) i))) → H'[2]? = some (some obT) → Rw (.pb (tysB (l.take (i + 1)))) (i + 1) obT → 3 ≤ o → H'[o]? = some (some obr) → Rw (.pb (restB (l.take i))) 0 obr → H'[k]? = some (some (pmO p)) →
      ∃ code, ((Try.f14.body).bind (codeAt [1, 1, 1, 1, 0, 1, 0, 0, 1, 0, 0, 1, 1, 1, 1, 1])) = some code ∧ Tells Q X (evT X) 14 0 code (r2Fb c b d l bd m8 i o (.sl 2 0 (tysB (l.take (i + 1))).length (i + 1)) (.ptr k 0 0 0) 0) H') :
    ∃ code, ((Try.f14.body).bind (codeAt [1, 1, 1, 1, 0, 1, 0, 0, 1, 0, 0, 1, 1])) = some code ∧
    Tells Q X (evT X) 14 0 code (r2Fb c b d l bd m8 i o (.sl 2 0 (tysB (l.take i)).length i) (.ptr k 0 0 0) 0 ++ [(48, .bool false)]) H := by
  refine ⟨_, rfl, ?_⟩
  obtain ⟨obT, obr, h0, h1, h2, hT, hoK, h3, hr⟩ := hH
  obtain ⟨o1, o2, o3⟩ := ho
  have hlt : i < l.length := at_lt hp
  apply Tells.seq (fr' := r2Fb c b d l bd m8 i o (.sl 2 0 (tysB (l.take i)).length i) (.ptr k 0 0 0) 1) (H' := H)
  · (refine ⟨0, ?_⟩; simp (maxSteps := 2000000) -implicitDefEqProofs [-getElem?_pos, List.getElem?_cons_zero, List.getElem?_cons_succ, go_sem, eqV, plen, loadV, storeV, r2Fb])
  apply Tells.andThen (P := fun fr H' => H' = H ∧ ∃ tl, fr = r2Fb c b d l bd m8 i o (.sl 2 0 (tysB (l.take i)).length i) (.ptr k 0 0 0) (sgn p + 1) ++ tl)
  · cases hu : p.t.u with
    | true =>
      refine Tells.of (o := ⟨.normal, r2Fb c b d l bd m8 i o (.sl 2 0 (tysB (l.take i)).length i) (.ptr k 0 0 0) 129, _⟩) ⟨0, ?_⟩ ⟨rfl, rfl, [], by unfold sgn; rw [hu]; simp⟩
      simp (maxSteps := 2000000) -implicitDefEqProofs [-getElem?_pos, List.getElem?_cons_zero, List.getElem?_cons_succ, go_sem, eqV, plen, loadV, storeV, r2Fb, h4, pmO, Pm.pay, hu]
    | false =>
      refine Tells.of (o := ⟨.normal, r2Fb c b d l bd m8 i o (.sl 2 0 (tysB (l.take i)).length i) (.ptr k 0 0 0) 1 ++ [(51, .bool false)], _⟩) ⟨0, ?_⟩ ⟨rfl, rfl, [(51, .bool false)], by unfold sgn; rw [hu]; simp⟩
      simp (maxSteps := 2000000) -implicitDefEqProofs [-getElem?_pos, List.getElem?_cons_zero, List.getElem?_cons_succ, go_sem, eqV, plen, loadV, storeV, r2Fb, h4, pmO, Pm.pay, hu]
  rintro fr H' ⟨rfl, tl, rfl⟩
  have hs : sgn p < 256 := by unfold sgn; split <;> omega
  have htl := tysB_len (l.take i)
  have hi2 : (l.take i).length = i := by rw [List.length_take]; omega
  obtain ⟨ob1, hw1, hA⟩ := app_b (H := H') (o := 2) (m := tyB p) (src := .ro 1 (.pb (tyB p)) 0) h2 hT (.inl rfl) (by rw [htl, hi2]; simp [tyB]; omega)
  have hbs := fun H => bs2n H p.t.t (sgn p) o1 hs
  have hcat := take_cat tyB hp
  have hcl : (tysB (l.take (i + 1))).length = (tysB (l.take i)).length + (tyB p).length := by
    show ((l.take (i + 1)).flatMap tyB).length = _
    rw [hcat, List.length_append]; rfl
  apply Tells.seq (fr' := r2Fb c b d l bd m8 i o (.sl 2 0 (tysB (l.take (i + 1))).length (i + 1)) (.ptr k 0 0 0) 0) (H' := upd H' 2 (some ob1))
  · rw [hcl]
    rw [show ([UInt8.ofNat p.t.t, UInt8.ofNat (sgn p)] : List UInt8) = tyB p from rfl] at hbs
    generalize tyB p = ty at *
    generalize sgn p = sg at *
    (refine ⟨0, ?_⟩; simp (maxSteps := 2000000) -implicitDefEqProofs [-getElem?_pos, List.getElem?_cons_zero, List.getElem?_cons_succ, go_sem, eqV, plen, loadV, storeV, r2Fb, h4, pmO, Pm.pay, hbs, hA, assignV])
  refine piece (next (upd H' 2 (some ob1)) ob1 obr (at_ne h0 (by omega)) (at_ne h1 (by omega)) (at_set h2) ?_ hoK (at_ne h3 (by omega)) hr (at_ne h4 (by omega))) _ rfl
  show Rw (.pb ((l.take (i + 1)).flatMap tyB)) (i + 1) ob1
  rw [hcat]; exact hw1

set_option maxRecDepth 100000 in
set_option maxHeartbeats 4000000 in
/-- a round: the parameter's bit, or its value -/
theorem r2_val (ob0 obT obr : AM.Obj) (i o : Nat) (p : Pm) (H : AM.Heap) (k : Nat) (hn : l.length ≤ 65535) (hm : l.length ≤ 8 * m8) (hR : (restB l).length ≤ 90000) (hp : l[i]? = some p) (ho : p.ok) (hok : p.bad = false)
    (h0 : H[0]? = some (some ob0)) (h1 : H[1]? = some (some (bitO m8 (bitN (nulP l) 0 (zer m8) i)))) (h2 : H[2]? = some (some obT)) (hT : Rw (.pb (tysB (l.take (i + 1)))) (i + 1) obT) (hoK : 3 ≤ o) (h3 : H[o]? = some (some obr)) (hr : Rw (.pb (restB (l.take i))) 0 obr) (h4 : H[k]? = some (some (pmO p))) (hk : 3 ≤ k) :
    ∃ code, ((Try.f14.body).bind (codeAt [1, 1, 1, 1, 0, 1, 0, 0, 1, 0, 0, 1, 1, 1, 1, 1])) = some code ∧
      Tells (Goes fun fr H' => ∃ o' tl, p2Hp l 0 m8 ob0 (i + 1) o' (i + 1) H' ∧ fr = r2Fc c b d l bd m8 i o' tl ∧ (tl = [] ∨ tl = [(74, .bool false)])) X (evT X) 14 0 code (r2Fb c b d l bd m8 i o (.sl 2 0 (tysB (l.take (i + 1))).length (i + 1)) (.ptr k 0 0 0) 0) H := by
  refine ⟨_, rfl, ?_⟩
  obtain ⟨o1, o2, o3⟩ := ho
  have hlt : i < l.length := at_lt hp
  have hcat := take_cat paE hp
  have hrb : restB (l.take (i + 1)) = restB (l.take i) ++ paE p := hcat
  have hnul : nulP l i = (!p.lg && decide (p.v.k = 0)) := by unfold nulP; rw [hp]
  unfold Pm.bad at hok
  simp only [Bool.or_eq_false_iff, decide_eq_false_iff_not, ne_eq, Decidable.not_not, Bool.and_eq_false_iff] at hok
  obtain ⟨hck, hlk⟩ := hok
  by_cases hk0 : p.v.k = 0
  · have he : paE p = [] := by unfold paE; rw [if_pos (.inr hk0)]
    apply Tells.seq (fr' := r2Fb c b d l bd m8 i o (.sl 2 0 (tysB (l.take (i + 1))).length (i + 1)) (.ptr k 0 0 0) 0 ++ [(62, .bool false)]) (H' := H)
    · (refine ⟨0, ?_⟩; simp (maxSteps := 2000000) -implicitDefEqProofs [-getElem?_pos, List.getElem?_cons_zero, List.getElem?_cons_succ, go_sem, eqV, plen, loadV, storeV, r2Fb, h4, pmO, Pm.pay, hk0])
    apply Tells.condF (by simp [evalO, getF, r2Fb])
    apply Tells.seq (fr' := r2Fc c b d l bd m8 i o [(74, .bool !p.lg)]) (H' := H)
    · unfold r2Fc
      rw [hrb, he, List.append_nil]
      (refine ⟨0, ?_⟩; simp (maxSteps := 2000000) -implicitDefEqProofs [-getElem?_pos, List.getElem?_cons_zero, List.getElem?_cons_succ, go_sem, eqV, plen, loadV, storeV, r2Fb, h4, pmO, Pm.pay, unV])
    cases hlg : p.lg with
    | true =>
      apply Tells.condF (by simp [evalO, getF, r2Fc])
      refine Tells.of (o := ⟨.normal, _, _⟩) ⟨0, rfl⟩ ⟨rfl, o, [(74, .bool false)], ⟨obT, obr, h0, ?_, h2, hT, by omega, h3, ?_⟩, ?_, .inr rfl⟩
      · unfold bitN; rw [hnul, hlg]; exact h1
      · rw [hrb, he, List.append_nil]; exact hr
      · rfl
    | false =>
    apply Tells.condT (by simp [evalO, getF, r2Fc])
    have hbl := bitN_len (nulP l) 0 (zer m8) i
    have hzl : (zer m8).length = m8 := by simp [zer]
    have hi8 : i / 8 < (bitN (nulP l) 0 (zer m8) i).length := by omega
    have hnx : bitN (nulP l) 0 (zer m8) (i + 1) = (bitN (nulP l) 0 (zer m8) i).set (i / 8) (orB ((bitN (nulP l) 0 (zer m8) i).getD (i / 8) 0) (i % 8)) := by
      rw [bitN, hnul, hlg, hk0]; rfl
    generalize bitN (nulP l) 0 (zer m8) i = bs at *
    obtain ⟨y, hy⟩ : ∃ y, bs[i / 8]? = some y := ⟨_, List.getElem?_eq_getElem hi8⟩
    rw [show bs.getD (i / 8) 0 = y by rw [List.getD, hy]; rfl] at hnx
    have hor := or_bit (y := y) (j := i % 8) (Nat.mod_lt _ (by omega))
    have hsh := shl1 (j := i % 8) (Nat.mod_lt _ (by omega))
    have e1 : Int.tdiv (i : Int) 8 = ((i / 8 : Nat) : Int) := by rw [Int.tdiv_eq_ediv_of_nonneg (by omega)]; omega
    have e2 : Int.tmod (i : Int) 8 = ((i % 8 : Nat) : Int) := by rw [Int.tmod_eq_emod_of_nonneg (by omega)]; omega
    have e3 : (i : Int) / 8 = ((i / 8 : Nat) : Int) := by omega
    have e4 : (i : Int) % 8 = ((i % 8 : Nat) : Int) := by omega
    have w1 : IntKind.i64.wrap ((i / 8 : Nat) : Int) = ((i / 8 : Nat) : Int) := wrap_i64 (by omega) (by omega)
    have w2 : IntKind.u64.wrap ((i % 8 : Nat) : Int) = ((i % 8 : Nat) : Int) := wrap_u64 (by omega) (by omega)
    have hb8 : i / 8 < m8 := by omega
    have hb8i : ((i / 8 : Nat) : Int) < (m8 : Int) := by omega
    have hr0 : ¬ ((i % 8 : Nat) : Int) < 0 := by omega
    have hr8 : i % 8 < 8 := Nat.mod_lt _ (by omega)
    have yo : UInt8.ofNat (orB y (i % 8)).toNat = orB y (i % 8) := by simp
    have yl : ((orB y (i % 8)).toNat : Int) < 256 := by have := (orB y (i % 8)).toNat_lt; omega
    generalize i / 8 = q at *
    generalize i % 8 = r at *
    generalize orB y r = z at *
    generalize 2 ^ r = pw at *
    have hor2 := hor
    simp only [go_sem] at hor2
    simp only [BitVec.toNat_or] at hor
    refine Tells.of (o := ⟨.normal, r2Fc c b d l bd m8 i o [], upd H 1 (some (bitO m8 (bs.set q z)))⟩) ⟨0, ?_⟩ ⟨rfl, o, [], ⟨obT, obr, at_ne h0 (by omega), ?_, at_ne h2 (by omega), hT, by omega, at_ne h3 (by omega), ?_⟩, rfl, .inl rfl⟩
    · unfold r2Fc
      rw [hrb, he, List.append_nil]
      simp (maxSteps := 2000000) -implicitDefEqProofs [-getElem?_pos, List.getElem?_cons_zero, List.getElem?_cons_succ, go_sem, eqV, plen, loadV, storeV, h1, bitO, e1, e2, e3, e4, w1, w2, hb8, hb8i, hi8, hy, hsh, hr0, hor, hor2, yo, yl, show IntKind.u8.bits = 8 from rfl]
    · rw [hnx]; exact at_set h1
    · rw [hrb, he, List.append_nil]; exact hr
  · -- a value
    have hlg : p.lg = false := by
      rcases hlk with h | h
      · exact h
      · exact absurd h hk0
    have hkb : (p.v.k != 0) = true := by simpa using hk0
    apply Tells.seq (fr' := r2Fb c b d l bd m8 i o (.sl 2 0 (tysB (l.take (i + 1))).length (i + 1)) (.ptr k 0 0 0) 0 ++ [(62, .bool true)]) (H' := H)
    · (refine ⟨0, ?_⟩; simp (maxSteps := 2000000) -implicitDefEqProofs [-getElem?_pos, List.getElem?_cons_zero, List.getElem?_cons_succ, go_sem, eqV, plen, loadV, storeV, r2Fb, h4, pmO, Pm.pay, hkb])
    apply Tells.condT (by simp [evalO, getF, r2Fb])
    have hrl := restB_le l i
    obtain ⟨ob1, hw1, hA⟩ := rvappend_ev (v := p.v) (t := p.t) (Byt.whole h3 hr) (by omega) o1 o2
    have hap : apV (restB (l.take i)) p.v p.t = (restB (l.take (i + 1)), 0) := by
      unfold apV
      rw [if_pos (by unfold apOk; rw [hck]; simp [hk0]), hrb]
      unfold paE
      rw [if_neg (by rw [hlg]; simp [hk0])]
    rw [hap] at hA hw1
    refine Tells.of (o := ⟨.normal, r2Fc c b d l bd m8 i H.length [], H ++ [some ob1]⟩) ?_ ⟨rfl, H.length, [], ⟨obT, ob1, at_cat h0, ?_, at_cat h2, hT, ?_, by simp, hw1⟩, rfl, .inl rfl⟩
    · simp only [Va.pay, Ty.pay] at hA
      unfold r2Fc
      generalize (restB (l.take (i + 1))).length = n1 at *
      (refine ⟨0, ?_⟩; simp (maxSteps := 2000000) -implicitDefEqProofs [-getElem?_pos, List.getElem?_cons_zero, List.getElem?_cons_succ, go_sem, eqV, plen, loadV, storeV, r2Fb, h4, pmO, Pm.pay, mkVa, mkTy, hA, assignV])
    · unfold bitN; rw [hnul, hlg]; simp [hk0]; exact at_cat h1
    · have := at_lt h4; omega

set_option maxRecDepth 100000 in
set_option maxHeartbeats 4000000 in
theorem r2_loop (ob0 : AM.Obj) (o : Nat) (H : AM.Heap) (hn : l.length ≤ 65535) (hm : l.length ≤ 8 * m8) (hR : (restB l).length ≤ 90000) (hl : ∀ p ∈ l, p.ok) (hH : p2Hp l 0 m8 ob0 0 o 0 H) :
    ∃ code, ((Try.f14.body).bind (codeAt [1, 1, 1, 1, 0, 1])) = some code ∧
      Tells (Or2 (fun fr H => (∀ p ∈ l, p.bad = false) ∧ ∃ o, p2Hp l 0 m8 ob0 l.length o l.length H ∧ fr = r2Fr c b d l bd m8 l.length o ++ [(26, .bool false)]) (fun out => out.ex = .ret ∧ (∃ p ∈ l, p.bad = true) ∧ ∃ o, getF out.fr 6 = .sl o 0 0 0 ∧ getF out.fr 7 = .int .i64 2 ∧ out.H[o]? = some (some nilB)))
        X (evT X) 14 0 code (r2Fr c b d l bd m8 0 o) H := by
  refine ⟨_, rfl, ?_⟩
  apply Tells.blockOr
  refine Tells.loopP (fun k fr H => ∃ i o, k = l.length - i ∧ i ≤ l.length ∧ p2Hp l 0 m8 ob0 i o i H ∧ fr = r2Fr c b d l bd m8 i o ∧ ∀ j p, j < i → l[j]? = some p → p.bad = false) ?_ (k := l.length) ⟨0, o, rfl, by omega, hH, rfl, fun j p h => by omega⟩
  rintro k fr H ⟨i, o, rfl, hi, hH, rfl, hall⟩
  have hLl : (l.map Pm.pay).length = l.length := List.length_map _
  apply Tells.assoc
  by_cases hin : i = l.length
  · subst hin
    refine Tells.of (o := ⟨.exit 0, r2Fr c b d l bd m8 l.length o ++ [(26, .bool false)], H⟩) ⟨0, ?_⟩ (.inr ⟨by simp, .inl ⟨rfl, fun p hp => ?_, o, hH, rfl⟩⟩)
    · unfold r2Fr
      generalize l.map Pm.pay = L at *
      simp (maxSteps := 2000000) -implicitDefEqProofs [-getElem?_pos, List.getElem?_cons_zero, List.getElem?_cons_succ, go_sem, eqV, plen, loadV, storeV, hLl]
    · obtain ⟨j, hj, rfl⟩ := List.mem_iff_getElem.1 hp
      exact hall j _ hj (List.getElem?_eq_getElem hj)
  have hlt : i < l.length := by omega
  have hiI : (i : Int) < (l.length : Int) := by omega
  obtain ⟨p, hp⟩ : ∃ p, l[i]? = some p := ⟨_, List.getElem?_eq_getElem hlt⟩
  have hmem := List.mem_of_getElem? hp
  apply Tells.seq (fr' := r2Fr c b d l bd m8 i o ++ [(26, .bool true)]) (H' := H)
  · unfold r2Fr
    generalize l.map Pm.pay = L at *
    (refine ⟨0, ?_⟩; simp (maxSteps := 2000000) -implicitDefEqProofs [-getElem?_pos, List.getElem?_cons_zero, List.getElem?_cons_succ, go_sem, eqV, plen, loadV, storeV, hLl, hiI])
  apply Tells.seq (fr' := r2Fr c b d l bd m8 i o ++ [(26, .bool true)]) (H' := H)
  · refine condT (by simp [evalO, getF, r2Fr]) ?_
    exact ⟨0, rfl⟩
  apply Tells.or (P := fun fr H' => p.bad = false ∧ ∃ o' tl, p2Hp l 0 m8 ob0 (i + 1) o' (i + 1) H' ∧ fr = r2Fc c b d l bd m8 i o' tl ∧ (tl = [] ∨ tl = [(74, .bool false)]))
  · apply Tells.blkOr
    · refine piece (r2_chk c b d l bd m8 ob0 i o p H hn hp (hl p hmem) _ ?_) _ rfl
      intro code' code2 hcode' hcode2
      obtain rfl := Option.some.inj (hcode'.symm.trans rfl)
      cases hb : p.bad with
      | true =>
        refine Tells.of (o := ⟨.ret, [(6, .sl (H.length + 1) 0 0 0), (7, .int .i64 2)], H ++ [some (pmO p)] ++ [some nilB]⟩) ?_ (.inr ⟨by simp, .inr ⟨by simp, .inr ⟨rfl, rfl, ⟨p, hmem, hb⟩, H.length + 1, rfl, rfl, by simp⟩⟩⟩)
        apply Run.seq_out (hne := by simp)
        refine condT (by simp [evalO, getF, r2Fb]) ⟨0, ?_⟩
        simp (maxSteps := 2000000) -implicitDefEqProofs [-getElem?_pos, List.getElem?_cons_zero, List.getElem?_cons_succ, go_sem, eqV, plen, loadV, storeV, assignV, emB]
      | false =>
        apply Tells.seq (fr' := r2Fb c b d l bd m8 i o (.sl 2 0 (tysB (l.take i)).length i) (.ptr H.length 0 0 0) 0 ++ [(48, .bool false)]) (H' := H ++ [some (pmO p)])
        · exact condF (by simp [evalO, getF, r2Fb]) ⟨0, rfl⟩
        obtain ⟨obT, obr, h0, h1, h2, hT, hoK, h3, hr⟩ := hH
        have hHl := at_lt h2
        refine piece (r2_ty c b d l bd m8 ob0 i o H.length p (H ++ [some (pmO p)]) hn hp (hl p hmem) ⟨obT, obr, at_cat h0, at_cat h1, at_cat h2, hT, hoK, at_cat h3, hr⟩ (by simp) (by omega) _ ?_) _ hcode2
        intro H' obT obr h0 h1 h2 hT hoK h3 hr h4
        obtain ⟨code, hc, ht⟩ := r2_val c b d l bd m8 ob0 obT obr i o p H' H.length hn hm hR hp (hl p hmem) hb h0 h1 h2 hT hoK h3 hr h4 (by omega)
        refine ⟨code, hc, ht.mono ?_⟩
        rintro o ⟨q1, o', tl, q2, q3, q4⟩
        exact .inl ⟨q1, rfl, o', tl, q2, q3, q4⟩
    · rintro o (⟨h1, _⟩ | ⟨_, ⟨h2, _⟩ | ⟨h2, _⟩⟩)
      · rw [h1]; simp
      · rw [h2]; simp
      · rw [h2]; simp
  rintro fr H' ⟨hb, o', tl, q2, rfl, q4⟩
  have w1 : IntKind.i64.wrap ((i : Int) + 1) = ((i + 1 : Nat) : Int) := by rw [wrap_i64 (by omega) (by omega)]; omega
  refine Tells.of (o := ⟨.normal, r2Fr c b d l bd m8 (i + 1) o', H'⟩) ⟨0, ?_⟩ (.inl ⟨rfl, l.length - (i + 1), by omega, i + 1, o', rfl, by omega, q2, rfl, fun j q hj hq => ?_⟩)
  · rcases q4 with rfl | rfl
    · simp (maxSteps := 2000000) -implicitDefEqProofs [-getElem?_pos, List.getElem?_cons_zero, List.getElem?_cons_succ, go_sem, eqV, plen, loadV, storeV, r2Fc, r2Fr, w1]
    · simp (maxSteps := 2000000) -implicitDefEqProofs [-getElem?_pos, List.getElem?_cons_zero, List.getElem?_cons_succ, go_sem, eqV, plen, loadV, storeV, r2Fc, r2Fr, w1]
  · by_cases hji : j = i
    · subst hji; rw [hp] at hq; obtain rfl := Option.some.inj hq; exact hb
    · exact hall j q (by omega) hq

set_option maxRecDepth 100000 in
set_option maxHeartbeats 4000000 in
theorem r2_end (hc : c = 0 → b = []) (hm8 : m8 = (l.length + 7) / 8) (ob0 : AM.Obj) (o : Nat) (H : AM.Heap) (hb : b.length ≤ 2000000) (hn : l.length ≤ 65535) (hR : (restB l).length ≤ 90000) (hH : p2Hp l 0 m8 ob0 l.length o l.length H) :
    ∃ code, ((Try.f14.body).bind (codeAt [1, 1, 1, 1, 1])) = some code ∧
      Tells (Rets fun fr H => ∃ o g ob, getF fr 6 = .sl o 0 (if l.length = 0 then b else b ++ paB l bd).length g ∧ getF fr 7 = .int .i64 0 ∧ H[o]? = some (some ob) ∧ Rw (.pb (if l.length = 0 then b else b ++ paB l bd)) g ob) X (evT X) 14 0 code (r2Fr c b d l bd m8 l.length o ++ [(26, .bool false)]) H := by
  refine ⟨_, rfl, ?_⟩
  obtain ⟨obT, obr, q0, q1, q2, hT, hoK, q3, hr⟩ := hH
  have hLl : (l.map Pm.pay).length = l.length := List.length_map _
  unfold r2Fr
  rw [List.take_length] at hT hr ⊢
  have hA0 := app_lit (H := H) (m := b) (src := .ro c (.pb b) 1) (srcB (.inl rfl)) (by omega)
  have hb0 := fun H => bs0 H
  have hw0 : Rw (.pb b) 0 ⟨.pb b, 0, .none, 1, true, false, 0⟩ := ⟨rfl, rfl, rfl, rfl, rfl⟩
  generalize (⟨.pb b, 0, .none, 1, true, false, 0⟩ : AM.Obj) = ob1 at *
  apply Tells.seq (fr' := [(1, .ro d (.pr 15 (l.map Pm.pay)) 2), (2, .bool bd), (8, .sl 1 0 m8 0), (9, .sl 2 0 (tysB l).length l.length), (10, .sl o 0 (restB l).length 0), (14, .sl H.length 0 b.length 0)]) (H' := H ++ [some ob1])
  · generalize (tysB l).length = n1 at *
    generalize (restB l).length = n2 at *
    generalize l.map Pm.pay = L at *
    (refine ⟨0, ?_⟩; simp (maxSteps := 2000000) -implicitDefEqProofs [-getElem?_pos, List.getElem?_cons_zero, List.getElem?_cons_succ, go_sem, eqV, plen, loadV, storeV, hb0, hA0, assignV])
  have hlo := at_lt q3
  replace q1 := at_cat (r := [some ob1]) q1
  replace q2 := at_cat (r := [some ob1]) q2
  replace q3 := at_cat (r := [some ob1]) q3
  have q4 : (H ++ [some ob1])[H.length]? = some (some ob1) := by simp
  generalize hK : H.length = K at *
  generalize H ++ [some ob1] = H1 at *
  apply Tells.assoc
  apply Tells.seq (fr' := [(2, .bool bd), (8, .sl 1 0 m8 0), (9, .sl 2 0 (tysB l).length l.length), (10, .sl o 0 (restB l).length 0), (14, .sl K 0 b.length 0), (94, .bool (decide (l.length = 0)))]) (H' := H1)
  · generalize (tysB l).length = n1 at *
    generalize (restB l).length = n2 at *
    generalize l.map Pm.pay = L at *
    by_cases h0 : l.length = 0
    · (refine ⟨0, ?_⟩; simp (maxSteps := 2000000) -implicitDefEqProofs [-getElem?_pos, List.getElem?_cons_zero, List.getElem?_cons_succ, go_sem, eqV, plen, loadV, storeV, hLl, h0])
    · have h0i : ((l.length : Int) == 0) = false := beq_eq_false_iff_ne.2 (by omega)
      (refine ⟨0, ?_⟩; simp (maxSteps := 2000000) -implicitDefEqProofs [-getElem?_pos, List.getElem?_cons_zero, List.getElem?_cons_succ, go_sem, eqV, plen, loadV, storeV, hLl, h0, h0i])
  by_cases hl0 : l.length = 0
  · rw [if_pos hl0, decide_eq_true hl0]
    refine Tells.of (o := ⟨.ret, [(6, .sl K 0 b.length 0), (7, .int .i64 0)], H1⟩) ?_ ⟨rfl, K, 0, ob1, rfl, rfl, q4, hw0⟩
    apply Run.seq_out (hne := by simp)
    refine condT (by simp [evalO, getF]) ⟨0, ?_⟩
    simp (maxSteps := 2000000) -implicitDefEqProofs [-getElem?_pos, List.getElem?_cons_zero, List.getElem?_cons_succ, go_sem, eqV, plen, loadV, storeV, assignV]
  rw [if_neg hl0, decide_eq_false hl0]
  apply Tells.seq (fr' := [(2, .bool bd), (8, .sl 1 0 m8 0), (9, .sl 2 0 (tysB l).length l.length), (10, .sl o 0 (restB l).length 0), (14, .sl K 0 b.length 0), (94, .bool false)]) (H' := H1)
  · exact condF (by simp [evalO, getF]) ⟨0, rfl⟩
  have hbl : (bitN (nulP l) 0 (zer m8) l.length).length = m8 := by rw [bitN_len]; simp [zer]
  have hpa : paB l bd = bitN (nulP l) 0 (zer m8) l.length ++ (if bd then 1 :: tysB l else [0]) ++ restB l := by unfold paB; rw [hm8]
  have htl := tysB_len l
  rw [hpa]
  generalize bitN (nulP l) 0 (zer m8) l.length = bs at *
  have hwb : Rw (.pb bs) 0 (bitO m8 bs) := ⟨rfl, rfl, rfl, rfl, rfl⟩
  obtain ⟨ob2, hw1, hA1⟩ := app_b (H := H1) (o := K) (m := bs) (src := .sl 1 0 m8 0) q4 hw0 (.inl (srcW q1 hwb hbl.symm)) (by omega)
  rw [hbl] at hA1
  apply Tells.seq (fr' := [(2, .bool bd), (9, .sl 2 0 (tysB l).length l.length), (10, .sl o 0 (restB l).length 0), (14, .sl K 0 (b.length + m8) 1)]) (H' := upd H1 K (some ob2))
  · generalize (tysB l).length = n1 at *
    generalize (restB l).length = n2 at *
    (refine ⟨0, ?_⟩; simp (maxSteps := 2000000) -implicitDefEqProofs [-getElem?_pos, List.getElem?_cons_zero, List.getElem?_cons_succ, go_sem, eqV, plen, loadV, storeV, hA1, assignV])
  have l1 : (b ++ bs).length = b.length + m8 := by rw [List.length_append, hbl]
  have q2' : (upd H1 K (some ob2))[2]? = some (some obT) := at_ne q2 (by omega)
  have q3' : (upd H1 K (some ob2))[o]? = some (some obr) := at_ne q3 (by omega)
  have q0' : (upd H1 K (some ob2))[K]? = some (some ob2) := at_set q4
  generalize upd H1 K (some ob2) = H2 at *
  apply Tells.assoc
  apply Tells.seq (fr' := [(9, .sl 2 0 (tysB l).length l.length), (10, .sl o 0 (restB l).length 0), (14, .sl K 0 (b.length + m8) 1), (99, .bool bd)]) (H' := H2)
  · generalize (tysB l).length = n1 at *
    generalize (restB l).length = n2 at *
    (refine ⟨0, ?_⟩; simp (maxSteps := 2000000) -implicitDefEqProofs [-getElem?_pos, List.getElem?_cons_zero, List.getElem?_cons_succ, go_sem, eqV, plen, loadV, storeV])
  cases bd with
  | true =>
    have hbs := fun H => bsK H 1 1 rfl
    obtain ⟨ob3, hw2, hA2⟩ := app_b (H := H2) (o := K) (m := [1]) (src := .ro 1 (.pb [1]) 0) q0' hw1 (.inl rfl) (by simp; omega)
    rw [l1] at hA2
    have l2 : (b ++ bs ++ [1]).length = b.length + m8 + 1 := by rw [List.length_append, l1]; rfl
    obtain ⟨ob4, hw3, hA3⟩ := app_b (H := upd H2 K (some ob3)) (o := K) (m := tysB l) (src := .sl 2 0 (tysB l).length l.length) (at_set q0') hw2 (.inl (srcW (at_ne q2' (by omega)) hT rfl)) (by simp; omega)
    rw [l2] at hA3
    have l3 : (b ++ bs ++ [1] ++ tysB l).length = b.length + m8 + 1 + (tysB l).length := by rw [List.length_append, l2]
    obtain ⟨ob5, hw4, hA4⟩ := app_b (H := upd (upd H2 K (some ob3)) K (some ob4)) (o := K) (m := restB l) (src := .sl o 0 (restB l).length 0) (at_set (at_set q0')) hw3 (.inl (srcW (at_ne (at_ne q3' (by omega)) (by omega)) hr rfl)) (by simp; omega)
    rw [l3] at hA4
    refine Tells.of (o := ⟨.ret, [(6, .sl K 0 (b.length + m8 + 1 + (tysB l).length + (restB l).length) 4), (7, .int .i64 0)], upd (upd (upd H2 K (some ob3)) K (some ob4)) K (some ob5)⟩) ?_ ⟨rfl, K, 4, ob5, ?_, rfl, at_set (at_set (at_set q0')), ?_⟩
    · apply Run.seq_out (hne := by simp)
      refine condT (by simp [evalO, getF]) ⟨0, ?_⟩
      simp only [List.length_cons, List.length_nil, Nat.zero_add, upd, List.set_set] at hA2 hA3 hA4
      generalize (tysB l).length = n1 at *
      generalize (restB l).length = n2 at *
      simp (maxSteps := 2000000) -implicitDefEqProofs [-getElem?_pos, List.getElem?_cons_zero, List.getElem?_cons_succ, go_sem, eqV, plen, loadV, storeV, hbs, hA2, hA3, hA4, assignV]
    · simp [getF]; omega
    · rw [if_pos rfl]
      rw [show b ++ (bs ++ 1 :: tysB l ++ restB l) = b ++ bs ++ [1] ++ tysB l ++ restB l by simp]; exact hw4
  | false =>
    have hbs := fun H => bsK H 0 0 rfl
    obtain ⟨ob3, hw2, hA2⟩ := app_b (H := H2) (o := K) (m := [0]) (src := .ro 1 (.pb [0]) 0) q0' hw1 (.inl rfl) (by simp; omega)
    rw [l1] at hA2
    have l2 : (b ++ bs ++ [0]).length = b.length + m8 + 1 := by rw [List.length_append, l1]; rfl
    obtain ⟨ob5, hw4, hA4⟩ := app_b (H := upd H2 K (some ob3)) (o := K) (m := restB l) (src := .sl o 0 (restB l).length 0) (at_set q0') hw2 (.inl (srcW (at_ne q3' (by omega)) hr rfl)) (by simp; omega)
    rw [l2] at hA4
    apply Tells.seq (fr' := [(9, .sl 2 0 (tysB l).length l.length), (10, .sl o 0 (restB l).length 0), (14, .sl K 0 (b.length + m8) 1), (99, .bool false)]) (H' := H2)
    · exact condF (by simp [evalO, getF]) ⟨0, rfl⟩
    refine Tells.of (o := ⟨.ret, [(6, .sl K 0 (b.length + m8 + 1 + (restB l).length) 3), (7, .int .i64 0)], upd (upd H2 K (some ob3)) K (some ob5)⟩) ⟨0, ?_⟩ ⟨rfl, K, 3, ob5, ?_, rfl, at_set (at_set q0'), ?_⟩
    · simp only [List.length_cons, List.length_nil, Nat.zero_add, upd, List.set_set] at hA2 hA4
      generalize (tysB l).length = n1 at *
      generalize (restB l).length = n2 at *
      simp (maxSteps := 2000000) -implicitDefEqProofs [-getElem?_pos, List.getElem?_cons_zero, List.getElem?_cons_succ, go_sem, eqV, plen, loadV, storeV, hbs, hA2, hA4, assignV]
    · simp [getF]; omega
    · rw [if_neg (by simp)]
      rw [show b ++ (bs ++ [0] ++ restB l) = b ++ bs ++ [0] ++ restB l by simp]; exact hw4

end

section
variable (c : Nat) (b : List UInt8) (d : Nat) (l : List Pm) (bd : Bool)

set_option maxRecDepth 100000 in
set_option maxHeartbeats 4000000 in
theorem rpappend_code (hc : c = 0 → b = []) (hb : b.length ≤ 2000000) (hl : ∀ p ∈ l, p.ok) (hR : (restB l).length ≤ 90000) : ∃ code, Try.f14.body = some code ∧
    Tells (Rets fun fr H => ∃ o g ob, getF fr 6 = .sl o 0 (pApp b l bd).1.length g ∧ getF fr 7 = .int .i64 (pApp b l bd).2 ∧ H[o]? = some (some ob) ∧ Rw (.pb (pApp b l bd).1) g ob) X (evT X) 14 0 code [(0, .ro c (.pb b) 1), (1, .ro d (pmL l) 2), (2, .bool bd)] [] := by
  refine ⟨_, rfl, ?_⟩
  have hLl : (l.map Pm.pay).length = l.length := List.length_map _
  unfold pmL
  apply Tells.seq (fr' := [(0, .ro c (.pb b) 1), (1, .ro d (.pr 15 (l.map Pm.pay)) 2), (2, .bool bd)]) (H' := [some nilB])
  · generalize l.map Pm.pay = L at *
    (refine ⟨0, ?_⟩; simp (maxSteps := 2000000) -implicitDefEqProofs [-getElem?_pos, List.getElem?_cons_zero, List.getElem?_cons_succ, go_sem, eqV, plen, loadV, storeV, assignV, emB])
  by_cases h5 : 65535 < l.length
  · rw [show pApp b l bd = ([], 3) from if_pos h5]
    refine Tells.of (o := ⟨.ret, [(6, .sl 1 0 0 0), (7, .int .i64 3)], [some nilB, some nilB]⟩) ?_ ⟨rfl, 1, 0, nilB, rfl, rfl, rfl, nilB_rw⟩
    apply Run.seq_out (hne := by simp)
    have h5i : (65535 : Int) < (l.length : Int) := by omega
    refine ⟨0, ?_⟩
    generalize l.map Pm.pay = L at *
    simp (maxSteps := 2000000) -implicitDefEqProofs [-getElem?_pos, List.getElem?_cons_zero, List.getElem?_cons_succ, go_sem, eqV, plen, loadV, storeV, assignV, emB, h5i, hLl]
  have h5i : ¬ (65535 : Int) < (l.length : Int) := by omega
  apply Tells.seq (fr' := [(0, .ro c (.pb b) 1), (1, .ro d (.pr 15 (l.map Pm.pay)) 2), (2, .bool bd), (17, .bool false)]) (H' := [some nilB])
  · generalize l.map Pm.pay = L at *
    (refine ⟨0, ?_⟩; simp (maxSteps := 2000000) -implicitDefEqProofs [-getElem?_pos, List.getElem?_cons_zero, List.getElem?_cons_succ, go_sem, eqV, plen, loadV, storeV, assignV, emB, h5i, hLl])
  have hM := mkB (n := (l.length + 7) / 8) (by omega) [some nilB]
  have w7 : IntKind.i64.wrap ((l.length : Int) + 7) = ((l.length + 7 : Nat) : Int) := by rw [wrap_i64 (by omega) (by omega)]; omega
  have w8 : IntKind.i64.wrap (((l.length + 7 : Nat) : Int) / 8) = (((l.length + 7) / 8 : Nat) : Int) := by
    rw [wrap_i64 (by omega) (by omega)]; omega
  simp only [List.length_append, List.length_cons, List.length_nil, Nat.zero_add] at hM
  generalize hm8 : (l.length + 7) / 8 = m8 at *
  generalize hn7 : l.length + 7 = n7 at *
  apply Tells.seq (fr' := [(0, .ro c (.pb b) 1), (1, .ro d (.pr 15 (l.map Pm.pay)) 2), (2, .bool bd), (8, .sl 1 0 m8 0)]) (H' := [some nilB, some (bitO m8 (zer m8))])
  · generalize l.map Pm.pay = L at *
    (refine ⟨0, ?_⟩; simp (maxSteps := 2000000) -implicitDefEqProofs [-getElem?_pos, List.getElem?_cons_zero, List.getElem?_cons_succ, go_sem, eqV, plen, loadV, storeV, assignV, hLl, w7, w8, hM, bitO, zer])
  apply Tells.seq (fr' := [(0, .ro c (.pb b) 1), (1, .ro d (.pr 15 (l.map Pm.pay)) 2), (2, .bool bd), (8, .sl 1 0 m8 0), (9, .sl 2 0 0 0), (10, .sl 3 0 0 0)]) (H' := [some nilB, some (bitO m8 (zer m8)), some nilB, some nilB])
  · generalize l.map Pm.pay = L at *
    (refine ⟨0, ?_⟩; simp (maxSteps := 2000000) -implicitDefEqProofs [-getElem?_pos, List.getElem?_cons_zero, List.getElem?_cons_succ, go_sem, eqV, plen, loadV, storeV, assignV, emB])
  apply Tells.assoc
  apply Tells.seq (fr' := r2Fr c b d l bd m8 0 3) (H' := [some nilB, some (bitO m8 (zer m8)), some nilB, some nilB])
  · have t0 : (tysB (l.take 0)).length = 0 := rfl
    have r0 : (restB (l.take 0)).length = 0 := rfl
    unfold r2Fr
    rw [t0, r0]
    generalize l.map Pm.pay = L at *
    (refine ⟨0, ?_⟩; simp (maxSteps := 2000000) -implicitDefEqProofs [-getElem?_pos, List.getElem?_cons_zero, List.getElem?_cons_succ, go_sem, eqV, plen, loadV, storeV])
  have hm : l.length ≤ 8 * m8 := by omega
  have hH0 : p2Hp l 0 m8 nilB 0 3 0 [some nilB, some (bitO m8 (zer m8)), some nilB, some nilB] := ⟨nilB, nilB, rfl, rfl, rfl, nilB_rw, by omega, rfl, nilB_rw⟩
  apply Tells.or (P := fun fr H => (∀ p ∈ l, p.bad = false) ∧ ∃ o, p2Hp l 0 m8 nilB l.length o l.length H ∧ fr = r2Fr c b d l bd m8 l.length o ++ [(26, .bool false)])
  · refine (piece (r2_loop c b d l bd m8 nilB 3 _ (by omega) hm hR hl hH0) _ rfl).mono ?_
    rintro out (h | ⟨h1, h2, ⟨p, hp, hb⟩, o, q6, q7, q8⟩)
    · exact .inl h
    · have hbd : pApp b l bd = ([], 2) := by
        unfold pApp
        rw [if_neg h5, if_pos (List.any_eq_true.2 ⟨p, hp, hb⟩)]
      exact .inr ⟨h1, h2, o, 0, nilB, by rw [hbd]; exact q6, by rw [hbd]; exact q7, q8, by rw [hbd]; exact nilB_rw⟩
  rintro fr H ⟨hok, o, hH, rfl⟩
  have hany : ¬ l.any Pm.bad = true := by
    intro h
    obtain ⟨p, hp, hb⟩ := List.any_eq_true.1 h
    rw [hok p hp] at hb; cases hb
  have hpa : pApp b l bd = (if l.length = 0 then b else b ++ paB l bd, 0) := by
    unfold pApp
    rw [if_neg h5, if_neg hany]
    split <;> rfl
  rw [hpa]
  exact piece (r2_end c b d l bd m8 hc (by omega) nilB o H hb (by omega) hR hH) _ rfl

end

theorem rpappend_ev {H : AM.Heap} {a : AV} {b : List UInt8} {d t : Nat} {l : List Pm} {bd : Bool} (h : Byt H a b) (hb : b.length ≤ 2000000) (hl : ∀ p ∈ l, p.ok) (hR : (restB l).length ≤ 90000) :
    ∃ ob, Rw (.pb (pApp b l bd).1) 0 ob ∧ evT X 14 [a, .ro d (pmL l) t, .bool bd] H = some (.tup [.sl H.length 0 (pApp b l bd).1.length 0, .int .i64 (pApp b l bd).2], H ++ [some ob]) := by
  obtain ⟨c, p, xl, hp, hc, hx'⟩ := args_byt (C := X) (f := 14) (i := 0) rfl h (args_pm (f := 14) (i := 1) (d := d) (t := t) (l := l) (args_flat (i := 2) (a := .bool bd) rfl rfl (args_nil 3)))
  obtain ⟨code, hcode, hr⟩ := rpappend_code c b d l bd hc hb hl hR
  obtain ⟨ob, q1, q2⟩ := Ev1.newB (H := H) (n := (pApp b l bd).1.length) (l := (pApp b l bd).1) (rest := [.int .i64 (pApp b l bd).2]) (evT_below X) Try.func14 hcode hx' (by simp [idsL, ids]) (by simp [gtag]) rfl rfl rfl (by
    obtain ⟨o, ⟨he, o1, g, ob, q1, q2, q3, q4⟩, hrun⟩ := hr
    exact ⟨o, ⟨he, o1, g, ob, by show some [getF o.fr 6, getF o.fr 7] = _; rw [q1, q2], q3, q4⟩, by rw [par14, coB hp, coPm]; exact hrun⟩)
  exact ⟨ob, q1, evT_eq q2⟩

end Go.Proofs.Ytbmddnokokoofaa
