/- Walks: what an execute says, behind its checks: bits, types, values. -/
import Derived.Test.YtbmddnokokoofaaV9
import Derived.Test.YtbmddnokokoofaaF1
import Derived.Test.YtbmddnokokoofaaAm3
namespace Go.Proofs.Ytbmddnokokoofaa
open Go.AM
set_option linter.unusedSimpArgs false
set_option linter.unusedVariables false

structure Pm where
  t : Ty
  lg : Bool
  v : Va

def Pm.pay (p : Pm) : AV := .pc [.int .u8 (p.t.t : Nat), .bool p.t.u, .bool p.lg, .int .i64 p.v.k, .int .i64 p.v.i, .int .u64 (p.v.b : Nat), .str p.v.t, .bool p.v.w.neg, .int .i64 p.v.w.y, .int .i64 p.v.w.mo, .int .i64 p.v.w.d, .int .i64 p.v.w.h, .int .i64 p.v.w.mi, .int .i64 p.v.w.s, .int .i64 p.v.w.us]
def pmO (p : Pm) : AM.Obj := ⟨p.pay, 0, some 15, 1, false, true, 0⟩
def pmL (l : List Pm) : AV := .pr 15 (l.map Pm.pay)
/-- a parameter that may be -/
def Pm.ok (p : Pm) : Prop := p.t.t < 256 ∧ p.v.b < 18446744073709551616 ∧ -9223372036854775808 ≤ p.v.i ∧ p.v.i < 9223372036854775808
/-- a parameter that Append refuses -/
def Pm.bad (p : Pm) : Bool := decide (chkV p.v p.t ≠ 0) || (p.lg && decide (p.v.k ≠ 0))

theorem mkPm (l : List AV) : mkAgg X 34 l = some (.pc l) := by kernel_rfl

theorem at_cat {α : Type} {H r : List α} {j : Nat} {y : α} (h : H[j]? = some y) : (H ++ r)[j]? = some y := by
  rw [List.getElem?_append_left]
  · exact h
  · exact (List.getElem?_eq_some_iff.1 h).1
theorem at_lt {α : Type} {H : List α} {j : Nat} {y : α} (h : H[j]? = some y) : j < H.length := (List.getElem?_eq_some_iff.1 h).1
theorem at_set {α : Type} {H : List α} {j : Nat} {y x : α} (h : H[j]? = some y) : (H.set j x)[j]? = some x := by
  rw [List.getElem?_set_self (at_lt h)]
theorem at_ne {α : Type} {H : List α} {j k : Nat} {y x : α} (h : H[j]? = some y) (hne : k ≠ j) : (H.set k x)[j]? = some y := by
  rw [List.getElem?_set_ne hne]; exact h
theorem take_cat {α β : Type} {l : List α} {i : Nat} {p : α} (f : α → List β) (h : l[i]? = some p) : (l.take (i + 1)).flatMap f = (l.take i).flatMap f ++ f p := by
  rw [List.take_add_one, h]; simp

/-- a type's sign -/
def sgn (p : Pm) : Nat := if p.t.u then 128 else 0
def tyB (p : Pm) : List UInt8 := [UInt8.ofNat p.t.t, UInt8.ofNat (sgn p)]
def tysB (l : List Pm) : List UInt8 := l.flatMap tyB
def paE (p : Pm) : List UInt8 := if p.lg = true ∨ p.v.k = 0 then [] else enV p.v p.t
def restB (l : List Pm) : List UInt8 := l.flatMap paE
/-- is the parameter nothing? -/
def nulP (l : List Pm) (i : Nat) : Bool := match l[i]? with | some p => !p.lg && decide (p.v.k = 0) | none => false

theorem tysB_len (l : List Pm) : (tysB l).length = 2 * l.length := by
  induction l with
  | nil => rfl
  | cons p l ih => unfold tysB at ih ⊢; rw [List.flatMap_cons, List.length_append, ih]; simp [tyB]; omega

theorem restB_le (l : List Pm) (i : Nat) : (restB (l.take i)).length ≤ (restB l).length := by
  conv => rhs; rw [← List.take_append_drop i l]
  unfold restB
  rw [List.flatMap_append, List.length_append]
  omega

section
variable (b : List UInt8) (d : Nat) (l : List Pm) (bd : Bool) (K m8 : Nat)

def bitO (x : List UInt8) : AM.Obj := ⟨.pb x, 0, some m8, 1, true, false, 0⟩
def zer : List UInt8 := List.replicate m8 0

/-- a round's frame -/
def p2Fr (i o : Nat) : AM.Frame := [(2, .bool bd), (10, .sl K 0 b.length 0), (11, .sl (K + 1) 0 m8 0), (12, .sl (K + 2) 0 (tysB (l.take i)).length i), (13, .sl o 0 (restB (l.take i)).length 0), (54, .ro d (.pr 15 (l.map Pm.pay)) 2), (55, .int .i64 (l.length : Nat)), (56, .int .i64 (i : Nat))]
def p2Hp (ob0 : AM.Obj) (i o j : Nat) (H : AM.Heap) : Prop :=
  ∃ obT obr, H[K]? = some (some ob0) ∧ H[K + 1]? = some (some (bitO m8 (bitN (nulP l) 0 (zer m8) j))) ∧ H[K + 2]? = some (some obT) ∧ Rw (.pb (tysB (l.take i))) i obT ∧ K + 3 ≤ o ∧ H[o]? = some (some obr) ∧ Rw (.pb (restB (l.take i))) 0 obr

/-- a frame within a round -/
def p2Fb (i o : Nat) (x15 : AV) (t : Nat) (T : AV) : AM.Frame := [(2, .bool bd), (10, .sl K 0 b.length 0), (11, .sl (K + 1) 0 m8 0), (12, T), (13, .sl o 0 (restB (l.take i)).length 0), (14, .int .i64 (i : Nat)), (15, x15)] ++ (if t = 0 then [] else [(16, .int .u8 ((t - 1 : Nat) : Int))]) ++ [(54, .ro d (.pr 15 (l.map Pm.pay)) 2), (55, .int .i64 (l.length : Nat)), (56, .int .i64 (i : Nat))]

set_option maxRecDepth 100000 in
set_option maxHeartbeats 4000000 in
/-- a round: the parameter's own place, its sign, its type -/
theorem p2_ty (ob0 : AM.Obj) (i o : Nat) (p : Pm) (H : AM.Heap) (hn : l.length ≤ 65535) (hp : l[i]? = some p) (ho : p.ok) (hH : p2Hp l K m8 ob0 i o i H) (Q : AM.Out → Prop)
    (next : ∀ H' obT obr, H'[K]? = some (some ob0) → H'[K + 1]? = some (some (bitO m8 (bitN (nulP l) 0 (zer m8) i))) → H'[K + 2]? = some (some obT) → Rw (.pb (tysB (l.take (i + 1)))) (i + 1) obT → K + 3 ≤ o → H'[o]? = some (some obr) → Rw (.pb (restB (l.take i))) 0 obr → H'[H.length]? = some (some (pmO p)) → K + 3 ≤ H.length →
      ∃ code, ((Try.f8.body).bind (codeAt [1, 1, 1, 1, 1, 1, 1, 0, 1, 0, 0, 1, 1, 0, 0, 1, 1, 1, 1])) = some code ∧ Tells Q X (evT X) 8 0 code (p2Fb b d l bd K m8 i o (.ptr H.length 0 0 0) 0 (.sl (K + 2) 0 (tysB (l.take (i + 1))).length (i + 1))) H') :
    ∃ code, ((Try.f8.body).bind (codeAt [1, 1, 1, 1, 1, 1, 1, 0, 1, 0, 0, 1, 1, 0, 0])) = some code ∧
    Tells Q X (evT X) 8 0 code (p2Fr b d l bd K m8 i o ++ [(57, .bool true)]) H := by
  refine ⟨_, rfl, ?_⟩
  obtain ⟨obT, obr, h0, h1, h2, hT, hoK, h3, hr⟩ := hH
  obtain ⟨o1, o2, o3⟩ := ho
  have hK := at_lt h2
  have hrow : (l.map Pm.pay)[i]? = some p.pay := by rw [List.getElem?_map, hp]; rfl
  have hLl : (l.map Pm.pay).length = l.length := List.length_map _
  have hlt : i < l.length := at_lt hp
  have hnew : ∀ x : Option AM.Obj, (H ++ [x])[H.length]? = some x := fun x => by simp
  unfold p2Fr
  apply Tells.seq (fr' := p2Fb b d l bd K m8 i o (.ptr H.length 0 0 0) 0 (.sl (K + 2) 0 (tysB (l.take i)).length i)) (H' := H ++ [some (pmO p)])
  · unfold p2Fb
    generalize l.map Pm.pay = L at *
    simp only [Pm.pay] at hrow
    (refine ⟨0, ?_⟩; simp (maxSteps := 2000000) -implicitDefEqProofs [-getElem?_pos, List.getElem?_cons_zero, List.getElem?_cons_succ, go_sem, eqV, plen, loadV, storeV, p2Fb, hlt, hLl, hrow, pmO, Pm.pay, retagL, retag, retagP, flatCells, splice, scalars, scalar, hnew, mkPm, mkVa, mkTy, assignV])
  apply Tells.seq (fr' := p2Fb b d l bd K m8 i o (.ptr H.length 0 0 0) 1 (.sl (K + 2) 0 (tysB (l.take i)).length i)) (H' := H ++ [some (pmO p)])
  · (refine ⟨0, ?_⟩; simp (maxSteps := 2000000) -implicitDefEqProofs [-getElem?_pos, List.getElem?_cons_zero, List.getElem?_cons_succ, go_sem, eqV, plen, loadV, storeV, p2Fb])
  apply Tells.andThen (P := fun fr H' => H' = H ++ [some (pmO p)] ∧ ∃ tl, fr = p2Fb b d l bd K m8 i o (.ptr H.length 0 0 0) (sgn p + 1) (.sl (K + 2) 0 (tysB (l.take i)).length i) ++ tl)
  · cases hu : p.t.u with
    | true =>
      refine Tells.of (o := ⟨.normal, p2Fb b d l bd K m8 i o (.ptr H.length 0 0 0) 129 (.sl (K + 2) 0 (tysB (l.take i)).length i), _⟩) ⟨0, ?_⟩ ⟨rfl, rfl, [], by unfold sgn; rw [hu]; simp⟩
      simp (maxSteps := 2000000) -implicitDefEqProofs [-getElem?_pos, List.getElem?_cons_zero, List.getElem?_cons_succ, go_sem, eqV, plen, loadV, storeV, p2Fb, hnew, pmO, Pm.pay, hu]
    | false =>
      refine Tells.of (o := ⟨.normal, p2Fb b d l bd K m8 i o (.ptr H.length 0 0 0) 1 (.sl (K + 2) 0 (tysB (l.take i)).length i) ++ [(63, .bool false)], _⟩) ⟨0, ?_⟩ ⟨rfl, rfl, [(63, .bool false)], by unfold sgn; rw [hu]; simp⟩
      simp (maxSteps := 2000000) -implicitDefEqProofs [-getElem?_pos, List.getElem?_cons_zero, List.getElem?_cons_succ, go_sem, eqV, plen, loadV, storeV, p2Fb, hnew, pmO, Pm.pay, hu]
  rintro fr H' ⟨rfl, tl, rfl⟩
  have hs : sgn p < 256 := by unfold sgn; split <;> omega
  have htl := tysB_len (l.take i)
  have hi2 : (l.take i).length = i := by rw [List.length_take]; omega
  obtain ⟨ob1, hw1, hA⟩ := app_b (H := H ++ [some (pmO p)]) (o := K + 2) (m := tyB p) (src := .ro 1 (.pb (tyB p)) 0) (at_cat h2) hT (.inl rfl) (by rw [htl, hi2]; simp [tyB]; omega)
  have hbs := fun H => bs2n H p.t.t (sgn p) o1 hs
  have hcat := take_cat tyB hp
  have hcl : (tysB (l.take (i + 1))).length = (tysB (l.take i)).length + (tyB p).length := by
    show ((l.take (i + 1)).flatMap tyB).length = _
    rw [hcat, List.length_append]; rfl
  apply Tells.seq (fr' := p2Fb b d l bd K m8 i o (.ptr H.length 0 0 0) 0 (.sl (K + 2) 0 (tysB (l.take (i + 1))).length (i + 1))) (H' := upd (H ++ [some (pmO p)]) (K + 2) (some ob1))
  · rw [hcl]
    rw [show ([UInt8.ofNat p.t.t, UInt8.ofNat (sgn p)] : List UInt8) = tyB p from rfl] at hbs
    generalize tyB p = ty at *
    generalize sgn p = sg at *
    simp only [pmO, Pm.pay] at hA
    (refine ⟨0, ?_⟩; simp (maxSteps := 2000000) -implicitDefEqProofs [-getElem?_pos, List.getElem?_cons_zero, List.getElem?_cons_succ, go_sem, eqV, plen, loadV, storeV, p2Fb, hnew, pmO, Pm.pay, hbs, hA, assignV])
  refine piece (next (upd (H ++ [some (pmO p)]) (K + 2) (some ob1)) ob1 obr (at_ne (at_cat h0) (by omega)) (at_ne (at_cat h1) (by omega)) (at_set (at_cat h2)) ?_ hoK (at_ne (at_cat h3) (by omega)) hr (at_ne (hnew _) (by omega)) (by omega)) _ rfl
  show Rw (.pb ((l.take (i + 1)).flatMap tyB)) (i + 1) ob1
  rw [hcat]; exact hw1

/-- behind a round's choice -/
def p2Fc (i o : Nat) (m : AM.Frame) (tl : AM.Frame) : AM.Frame := [(2, .bool bd), (10, .sl K 0 b.length 0), (11, .sl (K + 1) 0 m8 0), (12, .sl (K + 2) 0 (tysB (l.take (i + 1))).length (i + 1)), (13, .sl o 0 (restB (l.take (i + 1))).length 0)] ++ m ++ [(54, .ro d (.pr 15 (l.map Pm.pay)) 2), (55, .int .i64 (l.length : Nat)), (56, .int .i64 (i : Nat))] ++ tl

set_option maxRecDepth 100000 in
set_option maxHeartbeats 4000000 in
/-- a round: the parameter's bit, or its value -/
theorem p2_val (ob0 obT obr : AM.Obj) (i o : Nat) (p : Pm) (H : AM.Heap) (k : Nat) (hn : l.length ≤ 65535) (hm : l.length ≤ 8 * m8) (hR : (restB l).length ≤ 1000000) (hp : l[i]? = some p) (ho : p.ok) (hok : p.bad = false)
    (h0 : H[K]? = some (some ob0)) (h1 : H[K + 1]? = some (some (bitO m8 (bitN (nulP l) 0 (zer m8) i)))) (h2 : H[K + 2]? = some (some obT)) (hT : Rw (.pb (tysB (l.take (i + 1)))) (i + 1) obT) (hoK : K + 3 ≤ o) (h3 : H[o]? = some (some obr)) (hr : Rw (.pb (restB (l.take i))) 0 obr) (h4 : H[k]? = some (some (pmO p))) (hk : K + 3 ≤ k) :
    ∃ code, ((Try.f8.body).bind (codeAt [1, 1, 1, 1, 1, 1, 1, 0, 1, 0, 0, 1, 1, 0, 0, 1, 1, 1, 1])) = some code ∧
      Tells (Goes fun fr H' => ∃ o' m tl, p2Hp l K m8 ob0 (i + 1) o' (i + 1) H' ∧ fr = p2Fc b d l bd K m8 i o' m tl ∧ ((m = [(14, .int .i64 (i : Nat)), (15, .ptr k 0 0 0)] ∧ tl = [(80, .bool true)]) ∨ (m = [] ∧ tl = []))) X (evT X) 8 0 code (p2Fb b d l bd K m8 i o (.ptr k 0 0 0) 0 (.sl (K + 2) 0 (tysB (l.take (i + 1))).length (i + 1))) H := by
  refine ⟨_, rfl, ?_⟩
  apply Tells.blk (hq := fun o h => by rw [h.1]; simp)
  obtain ⟨o1, o2, o3⟩ := ho
  have hlt : i < l.length := at_lt hp
  have hcat := take_cat paE hp
  have hrb : restB (l.take (i + 1)) = restB (l.take i) ++ paE p := hcat
  have hnul : nulP l i = (!p.lg && decide (p.v.k = 0)) := by unfold nulP; rw [hp]
  unfold Pm.bad at hok
  simp only [Bool.or_eq_false_iff, decide_eq_false_iff_not, ne_eq, Decidable.not_not, Bool.and_eq_false_iff] at hok
  obtain ⟨hck, hlk⟩ := hok
  have hsame : paE p = [] → nulP l i = false → p2Hp l K m8 ob0 (i + 1) o (i + 1) H := by
    intro he hnl
    refine ⟨obT, obr, h0, ?_, h2, hT, hoK, h3, ?_⟩
    · unfold bitN; rw [hnl]; exact h1
    · rw [hrb, he, List.append_nil]; exact hr
  apply Tells.seq (fr' := p2Fb b d l bd K m8 i o (.ptr k 0 0 0) 0 (.sl (K + 2) 0 (tysB (l.take (i + 1))).length (i + 1)) ++ [(80, .bool p.lg)]) (H' := H)
  · (refine ⟨0, ?_⟩; simp (maxSteps := 2000000) -implicitDefEqProofs [-getElem?_pos, List.getElem?_cons_zero, List.getElem?_cons_succ, go_sem, eqV, plen, loadV, storeV, p2Fb, h4, pmO, Pm.pay])
  cases hlg : p.lg with
  | true =>
    apply Tells.condT (by simp [evalO, getF, p2Fb])
    have he : paE p = [] := by unfold paE; rw [if_pos (.inl hlg)]
    refine Tells.of (o := ⟨.normal, _, _⟩) ⟨0, rfl⟩ ⟨rfl, o, _, _, hsame he (by rw [hnul, hlg]; rfl), ?_, .inl ⟨rfl, rfl⟩⟩
    simp [p2Fb, p2Fc, hrb, he]
  | false =>
  apply Tells.condF (by simp [evalO, getF, p2Fb])
  by_cases hk0 : p.v.k = 0
  · -- nothing
    apply Tells.seq (fr' := p2Fb b d l bd K m8 i o (.ptr k 0 0 0) 0 (.sl (K + 2) 0 (tysB (l.take (i + 1))).length (i + 1)) ++ [(83, .bool true)]) (H' := H)
    · (refine ⟨0, ?_⟩; simp (maxSteps := 2000000) -implicitDefEqProofs [-getElem?_pos, List.getElem?_cons_zero, List.getElem?_cons_succ, go_sem, eqV, plen, loadV, storeV, p2Fb, h4, pmO, Pm.pay, hk0])
    apply Tells.condT (by simp [evalO, getF, p2Fb])
    have he : paE p = [] := by unfold paE; rw [if_pos (.inr hk0)]
    have hbl := bitN_len (nulP l) 0 (zer m8) i
    have hzl : (zer m8).length = m8 := by simp [zer]
    have hi8 : i / 8 < (bitN (nulP l) 0 (zer m8) i).length := by omega
    have hnx : bitN (nulP l) 0 (zer m8) (i + 1) = (bitN (nulP l) 0 (zer m8) i).set (i / 8) (orB ((bitN (nulP l) 0 (zer m8) i).getD (i / 8) 0) (i % 8)) := by
      rw [bitN, hnul, hlg, hk0]; rfl
    generalize bitN (nulP l) 0 (zer m8) i = bs at *
    obtain ⟨y, hy⟩ : ∃ y, bs[i / 8]? = some y := ⟨_, List.getElem?_eq_getElem hi8⟩
    rw [show bs.getD (i / 8) 0 = y by rw [List.getD, hy]; rfl] at hnx
    have hor := or_bit (y := y) (j := i % 8) (Nat.mod_lt _ (by omega))
    have hsh := shl1 (j := i % 8) (Nat.mod_lt _ (by omega))
    have e1 : Int.tdiv (i : Int) 8 = ((i / 8 : Nat) : Int) := by rw [Int.tdiv_eq_ediv_of_nonneg (by omega)]; omega
    have e2 : Int.tmod (i : Int) 8 = ((i % 8 : Nat) : Int) := by rw [Int.tmod_eq_emod_of_nonneg (by omega)]; omega
    have e3 : (i : Int) / 8 = ((i / 8 : Nat) : Int) := by omega
    have e4 : (i : Int) % 8 = ((i % 8 : Nat) : Int) := by omega
    have w1 : IntKind.i64.wrap ((i / 8 : Nat) : Int) = ((i / 8 : Nat) : Int) := wrap_i64 (by omega) (by omega)
    have hb8 : i / 8 < m8 := by omega
    have hb8i : ((i / 8 : Nat) : Int) < (m8 : Int) := by omega
    have hr0 : ¬ ((i % 8 : Nat) : Int) < 0 := by omega
    have hr8 : i % 8 < 8 := Nat.mod_lt _ (by omega)
    have yo : UInt8.ofNat (orB y (i % 8)).toNat = orB y (i % 8) := by simp
    have yl : ((orB y (i % 8)).toNat : Int) < 256 := by have := (orB y (i % 8)).toNat_lt; omega
    generalize i / 8 = q at *
    generalize i % 8 = r at *
    generalize orB y r = z at *
    generalize 2 ^ r = pw at *
    have hor2 := hor
    simp only [go_sem] at hor2
    simp only [BitVec.toNat_or] at hor
    refine Tells.of (o := ⟨.normal, p2Fc b d l bd K m8 i o [] [], upd H (K + 1) (some (bitO m8 (bs.set q z)))⟩) ?_ ⟨rfl, o, [], [], ⟨obT, obr, at_ne h0 (by omega), ?_, at_ne h2 (by omega), hT, hoK, at_ne h3 (by omega), ?_⟩, rfl, .inr ⟨rfl, rfl⟩⟩
    · unfold p2Fc
      rw [hrb, he, List.append_nil]
      (refine ⟨0, ?_⟩; simp (maxSteps := 2000000) -implicitDefEqProofs [-getElem?_pos, List.getElem?_cons_zero, List.getElem?_cons_succ, go_sem, eqV, plen, loadV, storeV, p2Fb, h1, bitO, e1, e2, e3, e4, w1, hb8, hb8i, hi8, hy, hsh, hr0, hor, hor2, yo, yl, show IntKind.u8.bits = 8 from rfl])
    · rw [hnx]; exact at_set h1
    · rw [hrb, he, List.append_nil]; exact hr
  · -- a value
    have hkb : (p.v.k == 0) = false := by simpa using hk0
    apply Tells.seq (fr' := p2Fb b d l bd K m8 i o (.ptr k 0 0 0) 0 (.sl (K + 2) 0 (tysB (l.take (i + 1))).length (i + 1)) ++ [(83, .bool false)]) (H' := H)
    · (refine ⟨0, ?_⟩; simp (maxSteps := 2000000) -implicitDefEqProofs [-getElem?_pos, List.getElem?_cons_zero, List.getElem?_cons_succ, go_sem, eqV, plen, loadV, storeV, p2Fb, h4, pmO, Pm.pay, hkb])
    apply Tells.condF (by simp [evalO, getF, p2Fb])
    have hrl := restB_le l i
    obtain ⟨ob1, hw1, hA⟩ := vappend_ev (v := p.v) (t := p.t) (Byt.whole h3 hr) (by omega) o1 o2 o3
    have hap : apV (restB (l.take i)) p.v p.t = (restB (l.take (i + 1)), 0) := by
      unfold apV
      rw [if_pos (by unfold apOk; rw [hck]; simp [hk0]), hrb]
      unfold paE
      rw [if_neg (by rw [hlg]; simp [hk0])]
    rw [hap] at hA hw1
    refine Tells.of (o := ⟨.normal, p2Fc b d l bd K m8 i H.length [] [], H ++ [some ob1]⟩) ?_ ⟨rfl, H.length, [], [], ⟨obT, ob1, at_cat h0, ?_, at_cat h2, hT, ?_, by simp, hw1⟩, rfl, .inr ⟨rfl, rfl⟩⟩
    · simp only [Va.pay, Ty.pay] at hA
      unfold p2Fc
      generalize (restB (l.take (i + 1))).length = n1 at *
      (refine ⟨0, ?_⟩; simp (maxSteps := 2000000) -implicitDefEqProofs [-getElem?_pos, List.getElem?_cons_zero, List.getElem?_cons_succ, go_sem, eqV, plen, loadV, storeV, p2Fb, h4, pmO, Pm.pay, mkVa, mkTy, hA, assignV])
    · unfold bitN; rw [hnul, hlg]; simp [hk0]; exact at_cat h1
    · have := at_lt h4; omega

set_option maxRecDepth 100000 in
set_option maxHeartbeats 4000000 in
theorem p2_loop (ob0 : AM.Obj) (o : Nat) (H : AM.Heap) (hn : l.length ≤ 65535) (hm : l.length ≤ 8 * m8) (hR : (restB l).length ≤ 1000000) (hl : ∀ p ∈ l, p.ok) (hok : ∀ p ∈ l, p.bad = false) (hH : p2Hp l K m8 ob0 0 o 0 H) :
    ∃ code, ((Try.f8.body).bind (codeAt [1, 1, 1, 1, 1, 1, 1, 0, 1])) = some code ∧
      Tells (Goes fun fr H => ∃ o, p2Hp l K m8 ob0 l.length o l.length H ∧ fr = p2Fr b d l bd K m8 l.length o ++ [(57, .bool false)]) X (evT X) 8 0 code (p2Fr b d l bd K m8 0 o) H := by
  refine ⟨_, rfl, ?_⟩
  apply Tells.block
  refine Tells.loopP (fun k fr H => ∃ i o, k = l.length - i ∧ i ≤ l.length ∧ p2Hp l K m8 ob0 i o i H ∧ fr = p2Fr b d l bd K m8 i o) ?_ (k := l.length) ⟨0, o, rfl, by omega, hH, rfl⟩
  rintro k fr H ⟨i, o, rfl, hi, hH, rfl⟩
  by_cases hin : i = l.length
  · subst hin
    refine Tells.of (o := ⟨.exit 2, p2Fr b d l bd K m8 l.length o ++ [(57, .bool false)], H⟩) ⟨0, ?_⟩ (.inr ⟨by simp, rfl, o, hH, rfl⟩)
    simp (maxSteps := 2000000) -implicitDefEqProofs [-getElem?_pos, List.getElem?_cons_zero, List.getElem?_cons_succ, go_sem, eqV, plen, loadV, storeV, p2Fr]
  have hlt : i < l.length := by omega
  have hiI : (i : Int) < (l.length : Int) := by omega
  obtain ⟨p, hp⟩ : ∃ p, l[i]? = some p := ⟨_, List.getElem?_eq_getElem hlt⟩
  have hmem := List.mem_of_getElem? hp
  apply Tells.seq (fr' := p2Fr b d l bd K m8 i o ++ [(57, .bool true)]) (H' := H)
  · (refine ⟨0, ?_⟩; simp (maxSteps := 2000000) -implicitDefEqProofs [-getElem?_pos, List.getElem?_cons_zero, List.getElem?_cons_succ, go_sem, eqV, plen, loadV, storeV, p2Fr, hiI])
  apply Tells.seq (fr' := p2Fr b d l bd K m8 i o ++ [(57, .bool true)]) (H' := H)
  · refine condT (by simp [evalO, getF, p2Fr]) ?_
    exact ⟨0, rfl⟩
  apply Tells.andThen (P := fun fr H' => ∃ o' m tl, p2Hp l K m8 ob0 (i + 1) o' (i + 1) H' ∧ fr = p2Fc b d l bd K m8 i o' m tl ∧ ((∃ k, m = [(14, .int .i64 (i : Nat)), (15, .ptr k 0 0 0)] ∧ tl = [(80, .bool true)]) ∨ (m = [] ∧ tl = [])))
  · apply Tells.blk (hq := fun o h => by rw [h.1]; simp)
    refine piece (p2_ty b d l bd K m8 ob0 i o p H hn hp (hl p hmem) hH _ ?_) _ rfl
    intro H' obT obr h0 h1 h2 hT hoK h3 hr h4 hk
    obtain ⟨code, hc, ht⟩ := p2_val b d l bd K m8 ob0 obT obr i o p H' H.length hn hm hR hp (hl p hmem) (hok p hmem) h0 h1 h2 hT hoK h3 hr h4 hk
    refine ⟨code, hc, ht.mono ?_⟩
    rintro o ⟨q1, o', m, tl, q2, q3, q4⟩
    refine ⟨q1, o', m, tl, q2, q3, ?_⟩
    rcases q4 with q4 | q4
    · exact .inl ⟨_, q4⟩
    · exact .inr q4
  rintro fr H' ⟨o', m, tl, q2, rfl, q4⟩
  have w1 : IntKind.i64.wrap ((i : Int) + 1) = ((i + 1 : Nat) : Int) := by rw [wrap_i64 (by omega) (by omega)]; omega
  refine Tells.of (o := ⟨.normal, p2Fr b d l bd K m8 (i + 1) o', H'⟩) ⟨0, ?_⟩ (.inl ⟨rfl, l.length - (i + 1), by omega, i + 1, o', rfl, by omega, q2, rfl⟩)
  rcases q4 with ⟨k, rfl, rfl⟩ | ⟨rfl, rfl⟩
  · simp (maxSteps := 2000000) -implicitDefEqProofs [-getElem?_pos, List.getElem?_cons_zero, List.getElem?_cons_succ, go_sem, eqV, plen, loadV, storeV, p2Fc, p2Fr, w1]
  · simp (maxSteps := 2000000) -implicitDefEqProofs [-getElem?_pos, List.getElem?_cons_zero, List.getElem?_cons_succ, go_sem, eqV, plen, loadV, storeV, p2Fc, p2Fr, w1]

end

/-- an execute's bytes -/
def paB (l : List Pm) (bd : Bool) : List UInt8 := bitN (nulP l) 0 (zer ((l.length + 7) / 8)) l.length ++ (if bd then 1 :: tysB l else [0]) ++ restB l

theorem srcW {H : AM.Heap} {o g n : Nat} {ob : AM.Obj} {l : List UInt8} (ho : H[o]? = some (some ob)) (h : Rw (.pb l) g ob) (hn : n = l.length) : srcV H (.sl o 0 n g) = some (.pb l, 0) := by
  subst hn
  simp [srcV, live, ho, h.g, h.ids, h.p, psub, payB, ptag]

section
variable (b : List UInt8) (d : Nat) (l : List Pm) (bd : Bool) (K : Nat)

set_option maxRecDepth 100000 in
set_option maxHeartbeats 4000000 in
theorem p2_tail (m8 : Nat) (hm8 : m8 = (l.length + 7) / 8) (ob0 : AM.Obj) (H : AM.Heap) (hw0 : Rw (.pb b) 0 ob0) (hb : b.length ≤ 2000000) (hn : l.length ≤ 65535) (hR : (restB l).length ≤ 1000000) (hl : ∀ p ∈ l, p.ok) (hok : ∀ p ∈ l, p.bad = false) (h0 : H[K]? = some (some ob0)) (h1 : H[K + 1]? = some (some (bitO m8 (zer m8)))) (hK : H.length = K + 2) :
    ∃ code, ((Try.f8.body).bind (codeAt [1, 1, 1, 1, 1, 1])) = some code ∧
      Tells (Rets fun fr H => ∃ o g ob, getF fr 6 = .sl o 0 (b ++ paB l bd).length g ∧ getF fr 7 = .int .i64 0 ∧ H[o]? = some (some ob) ∧ Rw (.pb (b ++ paB l bd)) g ob) X (evT X) 8 0 code [(1, .ro d (pmL l) 2), (2, .bool bd), (10, .sl K 0 b.length 0), (11, .sl (K + 1) 0 m8 0)] H := by
  refine ⟨_, rfl, ?_⟩
  unfold pmL
  have hLl : (l.map Pm.pay).length = l.length := List.length_map _
  apply Tells.seq (fr' := [(1, .ro d (.pr 15 (l.map Pm.pay)) 2), (2, .bool bd), (10, .sl K 0 b.length 0), (11, .sl (K + 1) 0 m8 0), (12, .sl (K + 2) 0 0 0), (13, .sl (K + 3) 0 0 0)]) (H' := H ++ [some nilB] ++ [some nilB])
  · (refine ⟨0, ?_⟩; simp (maxSteps := 2000000) -implicitDefEqProofs [-getElem?_pos, List.getElem?_cons_zero, List.getElem?_cons_succ, go_sem, eqV, plen, loadV, storeV, assignV, emB, hK])
  apply Tells.assoc
  apply Tells.seq (fr' := p2Fr b d l bd K m8 0 (K + 3)) (H' := H ++ [some nilB] ++ [some nilB])
  · have t0 : (tysB (l.take 0)).length = 0 := rfl
    have r0 : (restB (l.take 0)).length = 0 := rfl
    unfold p2Fr
    rw [t0, r0]
    generalize l.map Pm.pay = L at *
    (refine ⟨0, ?_⟩; simp (maxSteps := 2000000) -implicitDefEqProofs [-getElem?_pos, List.getElem?_cons_zero, List.getElem?_cons_succ, go_sem, eqV, plen, loadV, storeV, hLl])
  have hm : l.length ≤ 8 * m8 := by omega
  have hH0 : p2Hp l K m8 ob0 0 (K + 3) 0 (H ++ [some nilB] ++ [some nilB]) :=
    ⟨nilB, nilB, at_cat (at_cat h0), at_cat (at_cat h1), by rw [← hK]; simp, nilB_rw, by omega, by rw [show K + 3 = (H ++ [some nilB]).length by simp [hK]]; simp, nilB_rw⟩
  apply Tells.andThen (P := fun fr H => ∃ o, p2Hp l K m8 ob0 l.length o l.length H ∧ fr = p2Fr b d l bd K m8 l.length o ++ [(57, .bool false)])
  · exact piece (p2_loop b d l bd K m8 ob0 (K + 3) _ hn hm hR hl hok hH0) _ rfl
  rintro fr H' ⟨o, ⟨obT, obr, q0, q1, q2, hT, hoK, q3, hr⟩, rfl⟩
  unfold p2Fr
  rw [List.take_length] at hT hr ⊢
  have hbl : (bitN (nulP l) 0 (zer m8) l.length).length = m8 := by rw [bitN_len]; simp [zer]
  have hpa : paB l bd = bitN (nulP l) 0 (zer m8) l.length ++ (if bd then 1 :: tysB l else [0]) ++ restB l := by unfold paB; rw [hm8]
  have htl := tysB_len l
  rw [hpa]
  generalize bitN (nulP l) 0 (zer m8) l.length = bs at *
  have hwb : Rw (.pb bs) 0 (bitO m8 bs) := ⟨rfl, rfl, rfl, rfl, rfl⟩
  obtain ⟨ob1, hw1, hA1⟩ := app_b (H := H') (o := K) (m := bs) (src := .sl (K + 1) 0 m8 0) q0 hw0 (.inl (srcW q1 hwb hbl.symm)) (by omega)
  rw [hbl] at hA1
  apply Tells.seq (fr' := [(2, .bool bd), (10, .sl K 0 (b.length + m8) 1), (12, .sl (K + 2) 0 (tysB l).length l.length), (13, .sl o 0 (restB l).length 0)]) (H' := upd H' K (some ob1))
  · generalize (tysB l).length = n1 at *
    generalize (restB l).length = n2 at *
    generalize l.map Pm.pay = L at *
    (refine ⟨0, ?_⟩; simp (maxSteps := 2000000) -implicitDefEqProofs [-getElem?_pos, List.getElem?_cons_zero, List.getElem?_cons_succ, go_sem, eqV, plen, loadV, storeV, hA1, assignV])
  have l1 : (b ++ bs).length = b.length + m8 := by rw [List.length_append, hbl]
  have q2' : (upd H' K (some ob1))[K + 2]? = some (some obT) := at_ne q2 (by omega)
  have q3' : (upd H' K (some ob1))[o]? = some (some obr) := at_ne q3 (by omega)
  have q0' : (upd H' K (some ob1))[K]? = some (some ob1) := at_set q0
  generalize upd H' K (some ob1) = H1 at *
  apply Tells.andThen (P := fun fr H2 => ∃ g ob, fr = [(10, .sl K 0 (b ++ bs ++ (if bd then 1 :: tysB l else [0])).length g), (13, .sl o 0 (restB l).length 0)] ∧ H2[K]? = some (some ob) ∧ Rw (.pb (b ++ bs ++ (if bd then 1 :: tysB l else [0]))) g ob ∧ H2[o]? = some (some obr))
  · cases bd with
    | true =>
      have hbs := fun H => bsK H 1 1 rfl
      obtain ⟨ob2, hw2, hA2⟩ := app_b (H := H1) (o := K) (m := [1]) (src := .ro 1 (.pb [1]) 0) q0' hw1 (.inl rfl) (by simp; omega)
      rw [l1] at hA2
      have l2 : (b ++ bs ++ [1]).length = b.length + m8 + 1 := by rw [List.length_append, l1]; rfl
      obtain ⟨ob3, hw3, hA3⟩ := app_b (H := upd H1 K (some ob2)) (o := K) (m := tysB l) (src := .sl (K + 2) 0 (tysB l).length l.length) (at_set q0') hw2 (.inl (srcW (at_ne q2' (by omega)) hT rfl)) (by simp; omega)
      rw [l2] at hA3
      refine Tells.of (o := ⟨.normal, [(10, .sl K 0 (b.length + m8 + 1 + (tysB l).length) 3), (13, .sl o 0 (restB l).length 0)], upd (upd H1 K (some ob2)) K (some ob3)⟩) ⟨0, ?_⟩ ⟨rfl, 3, ob3, ?_, at_set (at_set q0'), ?_, at_ne (at_ne q3' (by omega)) (by omega)⟩
      · simp only [List.length_cons, List.length_nil, Nat.zero_add, upd] at hA2 hA3
        generalize (tysB l).length = n1 at *
        generalize (restB l).length = n2 at *
        simp (maxSteps := 2000000) -implicitDefEqProofs [-getElem?_pos, List.getElem?_cons_zero, List.getElem?_cons_succ, go_sem, eqV, plen, loadV, storeV, hbs, hA2, hA3, assignV]
      · simp; omega
      · rw [if_pos rfl]
        rw [show b ++ bs ++ 1 :: tysB l = b ++ bs ++ [1] ++ tysB l by simp]; exact hw3
    | false =>
      have hbs := fun H => bsK H 0 0 rfl
      obtain ⟨ob2, hw2, hA2⟩ := app_b (H := H1) (o := K) (m := [0]) (src := .ro 1 (.pb [0]) 0) q0' hw1 (.inl rfl) (by simp; omega)
      rw [l1] at hA2
      refine Tells.of (o := ⟨.normal, [(10, .sl K 0 (b.length + m8 + 1) 2), (13, .sl o 0 (restB l).length 0)], upd H1 K (some ob2)⟩) ⟨0, ?_⟩ ⟨rfl, 2, ob2, ?_, at_set q0', hw2, at_ne q3' (by omega)⟩
      · simp only [List.length_cons, List.length_nil, Nat.zero_add, upd] at hA2
        generalize (tysB l).length = n1 at *
        generalize (restB l).length = n2 at *
        simp (maxSteps := 2000000) -implicitDefEqProofs [-getElem?_pos, List.getElem?_cons_zero, List.getElem?_cons_succ, go_sem, eqV, plen, loadV, storeV, hbs, hA2, assignV]
      · simp; omega
  rintro fr H2 ⟨g, ob, rfl, r0, hw, r3⟩
  have hle : (b ++ bs ++ (if bd then 1 :: tysB l else [0])).length ≤ 3000000 := by
    have : (if bd then 1 :: tysB l else [0]).length ≤ 1 + (tysB l).length := by split <;> simp <;> omega
    rw [List.length_append, l1]; omega
  obtain ⟨ob4, hw4, hA4⟩ := app_b (H := H2) (o := K) (m := restB l) (src := .sl o 0 (restB l).length 0) r0 hw (.inl (srcW r3 hr rfl)) (by omega)
  refine Tells.of (o := ⟨.ret, [(6, .sl K 0 ((b ++ bs ++ (if bd then 1 :: tysB l else [0])).length + (restB l).length) (g + 1)), (7, .int .i64 0)], upd H2 K (some ob4)⟩) ⟨0, ?_⟩ ⟨rfl, K, g + 1, ob4, ?_, rfl, at_set r0, ?_⟩
  · generalize (b ++ bs ++ (if bd then 1 :: tysB l else [0])).length = n1 at *
    generalize (restB l).length = n2 at *
    simp (maxSteps := 2000000) -implicitDefEqProofs [-getElem?_pos, List.getElem?_cons_zero, List.getElem?_cons_succ, go_sem, eqV, plen, loadV, storeV, hA4, assignV]
  · simp only [getF, List.append_assoc, List.length_append]; simp; omega
  · simp only [List.append_assoc] at hw4 ⊢
    exact hw4

end
end Go.Proofs.Ytbmddnokokoofaa
