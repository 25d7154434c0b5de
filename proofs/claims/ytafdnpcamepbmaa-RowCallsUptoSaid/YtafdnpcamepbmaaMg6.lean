/- X5 to VG: texts of this claim, one behind the other; what each shows stands at its head. -/
import Derived.Test.YtafdnpcamepbmaaAm3
import Derived.Test.YtafdnpcamepbmaaMg5
/- Walks: the document's binary row, written. -/
namespace Go.Proofs.Ytafdnpcamepbmaa
open Go.AM
set_option linter.unusedSimpArgs false
set_option linter.unusedVariables false

section
variable (A : AV) (d : Nat) (l : List Va) (e : Nat) (ts : List Ty) (m8 : Nat)

/-- a round's frame -/
def rbFr (i o : Nat) : AM.Frame := [(0, A), (1, .ro d (.pr 12 (l.map Va.pay)) 2), (2, .ro e (.pr 2 (ts.map Ty.pay)) 3), (8, .sl 1 0 m8 0), (9, .sl o 0 (restB ((zr l ts).take i)).length 0), (10, .int .i64 (i : Nat))]

set_option maxRecDepth 100000 in
set_option maxHeartbeats 4000000 in
theorem rb_round (ob0 : AM.Obj) (i o : Nat) (v : Va) (t : Ty) (H : AM.Heap) (hn : l.length ≤ 4096) (hnt : l.length = ts.length) (hm : l.length + 2 ≤ 8 * m8) (hR : (restB (zr l ts)).length ≤ 90000) (hv : l[i]? = some v) (ht : ts[i]? = some t) (h256 : t.t < 256) (hok : v.okR) (hck : chkV v t = 0) (hH : bnHp l ts 0 m8 ob0 i o H) :
    ∃ code, ((Try.f12.body).bind (codeAt [1, 1, 1, 1, 1, 0, 1, 0, 0, 1])) = some code ∧
      Tells (Goes fun fr H' => ∃ o', fr = rbFr A d l e ts m8 (i + 1) o' ∧ bnHp l ts 0 m8 ob0 (i + 1) o' H') X (evT X) 12 0 code (rbFr A d l e ts m8 i o ++ [(27, .bool true)]) H := by
  refine ⟨_, rfl, ?_⟩
  obtain ⟨obr, h0, h1, hoK, h3, hr⟩ := hH
  have hlt := at_lt hv
  have hltT := at_lt ht
  have hLl : (l.map Va.pay).length = l.length := List.length_map _
  have hTl : (ts.map Ty.pay).length = ts.length := List.length_map _
  have hrow : (l.map Va.pay)[i]? = some v.pay := by rw [List.getElem?_map, hv]; rfl
  have hrowT : (ts.map Ty.pay)[i]? = some t.pay := by rw [List.getElem?_map, ht]; rfl
  have hiI : (i : Int) < (l.length : Int) := by omega
  have hiT : (i : Int) < (ts.length : Int) := by omega
  have hz := zr_at hv ht
  have hcat := take_cat paE hz
  have hrb : restB ((zr l ts).take (i + 1)) = restB ((zr l ts).take i) ++ paE ⟨t, false, v⟩ := hcat
  have hnul : nulP (zr l ts) i = decide (v.k = 0) := nul_at hz rfl
  have hrl := restB_le (zr l ts) i
  have w1 : IntKind.i64.wrap ((i : Int) + 1) = ((i + 1 : Nat) : Int) := by rw [wrap_i64 (by omega) (by omega)]; omega
  have hoL := at_lt h3
  have hKL := at_lt h1
  have hC := rcheck_ev (v := v) (t := t) h256 H
  rw [hck] at hC
  simp only [Va.pay, Ty.pay] at hC
  have wr8 : IntKind.i64.wrap (((i + 2) % 8 : Nat) : Int) = (((i + 2) % 8 : Nat) : Int) := wrap_i64 (by omega) (by omega)
  have wu8 : IntKind.u64.wrap (((i + 2) % 8 : Nat) : Int) = (((i + 2) % 8 : Nat) : Int) := wrap_u64 (by omega) (by omega)
  by_cases hk : v.k = 0
  · have he : paE ⟨t, false, v⟩ = [] := if_pos (.inr hk)
    rw [he, List.append_nil] at hrb
    have hbl := bitN_len (nulP (zr l ts)) 2 (zer m8) i
    have hzl : (zer m8).length = m8 := by simp [zer]
    have hi8 : (i + 2) / 8 < (bitN (nulP (zr l ts)) 2 (zer m8) i).length := by omega
    have hnx : bitN (nulP (zr l ts)) 2 (zer m8) (i + 1) = (bitN (nulP (zr l ts)) 2 (zer m8) i).set ((i + 2) / 8) (orB ((bitN (nulP (zr l ts)) 2 (zer m8) i).getD ((i + 2) / 8) 0) ((i + 2) % 8)) := by
      rw [bitN, hnul, hk]; rfl
    have hfin : bnHp l ts 0 m8 ob0 (i + 1) o (upd H 1 (some (bitO m8 (bitN (nulP (zr l ts)) 2 (zer m8) (i + 1))))) :=
      ⟨obr, at_ne h0 (by omega), at_set h1, hoK, at_ne h3 (by omega), by rw [hrb]; exact hr⟩
    refine Tells.of (o := ⟨.normal, rbFr A d l e ts m8 (i + 1) o, _⟩) ?_ ⟨rfl, o, rfl, hfin⟩
    unfold rbFr
    rw [hrb, hnx]
    have h1' := h1
    generalize bitN (nulP (zr l ts)) 2 (zer m8) i = bs at *
    obtain ⟨y, hy⟩ : ∃ y, bs[(i + 2) / 8]? = some y := ⟨_, List.getElem?_eq_getElem hi8⟩
    rw [show bs.getD ((i + 2) / 8) 0 = y by rw [List.getD, hy]; rfl]
    have hor := or_bit (y := y) (j := (i + 2) % 8) (Nat.mod_lt _ (by omega))
    have hsh := shl1 (j := (i + 2) % 8) (Nat.mod_lt _ (by omega))
    have w2 : IntKind.i64.wrap ((i : Int) + 2) = ((i + 2 : Nat) : Int) := by rw [wrap_i64 (by omega) (by omega)]; omega
    have e1 : Int.tdiv ((i + 2 : Nat) : Int) 8 = (((i + 2) / 8 : Nat) : Int) := by rw [Int.tdiv_eq_ediv_of_nonneg (by omega)]; omega
    have e2 : Int.tmod ((i + 2 : Nat) : Int) 8 = (((i + 2) % 8 : Nat) : Int) := by rw [Int.tmod_eq_emod_of_nonneg (by omega)]; omega
    have e3 : ((i + 2 : Nat) : Int) / 8 = (((i + 2) / 8 : Nat) : Int) := by omega
    have e4 : ((i + 2 : Nat) : Int) % 8 = (((i + 2) % 8 : Nat) : Int) := by omega
    have wq : IntKind.i64.wrap (((i + 2) / 8 : Nat) : Int) = (((i + 2) / 8 : Nat) : Int) := wrap_i64 (by omega) (by omega)
    have hb8 : (i + 2) / 8 < m8 := by omega
    have hb8i : (((i + 2) / 8 : Nat) : Int) < (m8 : Int) := by omega
    have hr0 : ¬ (((i + 2) % 8 : Nat) : Int) < 0 := by omega
    have hr8 : (i + 2) % 8 < 8 := Nat.mod_lt _ (by omega)
    have yo : UInt8.ofNat (orB y ((i + 2) % 8)).toNat = orB y ((i + 2) % 8) := by simp
    have yl : ((orB y ((i + 2) % 8)).toNat : Int) < 256 := by have := (orB y ((i + 2) % 8)).toNat_lt; omega
    generalize (i + 2) / 8 = q at *
    generalize (i + 2) % 8 = r at *
    generalize i + 2 = j at *
    generalize orB y r = z at *
    generalize 2 ^ r = pw at *
    have hor2 := hor
    simp only [go_sem] at hor2
    simp only [BitVec.toNat_or] at hor
    generalize (restB ((zr l ts).take i)).length = nr at *
    generalize l.map Va.pay = L at *
    generalize ts.map Ty.pay = T at *
    simp only [Va.pay] at hrow
    simp only [Ty.pay] at hrowT
    simp only [hk] at hrow hC
    refine ⟨0, ?_⟩
    simp (maxSteps := 2000000) -implicitDefEqProofs [-getElem?_pos, List.getElem?_cons_zero, List.getElem?_cons_succ, go_sem, eqV, plen, loadV, storeV, hlt, hiI, hLl, hrow, hltT, hiT, hTl, hrowT, hC, hk, mkTy, wr8, wu8, retagL, retag, retagP, flatCells, splice, scalars, scalar, mkVa, w1, w2, h1', bitO, e1, e2, e3, e4, wq, hb8, hb8i, hi8, hy, hsh, hr0, hor, hor2, yo, yl, show IntKind.u8.bits = 8 from rfl]
  · have hkb : (v.k == 0) = false := by simpa using hk
    obtain ⟨ob1, hw1, hA⟩ := rvappend_ev (v := v) (t := t) (Byt.whole h3 hr) (by omega) h256 hok.1
    have hap : apV (restB ((zr l ts).take i)) v t = (restB ((zr l ts).take (i + 1)), 0) := by
      unfold apV
      rw [if_pos (by unfold apOk; rw [hck]; simp [hk]), hrb]
      unfold paE
      rw [if_neg (by simp [hk])]
    rw [hap] at hA hw1
    have hfin : bnHp l ts 0 m8 ob0 (i + 1) H.length (H ++ [some ob1]) :=
      ⟨ob1, at_cat h0, by unfold bitN; rw [hnul]; simp only [hk, decide_false, Bool.false_eq_true, if_false]; exact at_cat h1, by omega, by simp, hw1⟩
    refine Tells.of (o := ⟨.normal, rbFr A d l e ts m8 (i + 1) H.length, _⟩) ⟨0, ?_⟩ ⟨rfl, _, rfl, hfin⟩
    unfold rbFr
    generalize (restB ((zr l ts).take (i + 1))).length = n1 at *
    generalize (restB ((zr l ts).take i)).length = nr at *
    generalize l.map Va.pay = L at *
    generalize ts.map Ty.pay = T at *
    simp only [Va.pay, Ty.pay] at hA hrow hrowT
    simp (maxSteps := 2000000) -implicitDefEqProofs [-getElem?_pos, List.getElem?_cons_zero, List.getElem?_cons_succ, go_sem, eqV, plen, loadV, storeV, hlt, hiI, hLl, hrow, hltT, hiT, hTl, hrowT, hC, hkb, retagL, retag, retagP, flatCells, splice, scalars, scalar, mkVa, mkTy, hA, w1, assignV]

end

end Go.Proofs.Ytafdnpcamepbmaa

/- Walks: the document's binary row, written: whole. -/
namespace Go.Proofs.Ytafdnpcamepbmaa
open Go.AM
set_option linter.unusedSimpArgs false
set_option linter.unusedVariables false

section
variable (A : AV) (d : Nat) (l : List Va) (e : Nat) (ts : List Ty) (m8 : Nat)

set_option maxRecDepth 100000 in
set_option maxHeartbeats 4000000 in
/-- a round that refuses -/
theorem rb_bad (i o : Nat) (v : Va) (t : Ty) (H : AM.Heap) (hn : l.length ≤ 4096) (hnt : l.length = ts.length) (hv : l[i]? = some v) (ht : ts[i]? = some t) (h256 : t.t < 256) (hck : chkV v t ≠ 0) :
    ∃ code, ((Try.f12.body).bind (codeAt [1, 1, 1, 1, 1, 0, 1, 0, 0, 1])) = some code ∧
      Run X (evT X) 12 0 code (rbFr A d l e ts m8 i o ++ [(27, .bool true)]) H ⟨.ret, [(6, .sl H.length 0 0 0), (7, .int .i64 2)], H ++ [some nilB]⟩ := by
  refine ⟨_, rfl, ?_⟩
  have hlt := at_lt hv
  have hltT := at_lt ht
  have hLl : (l.map Va.pay).length = l.length := List.length_map _
  have hTl : (ts.map Ty.pay).length = ts.length := List.length_map _
  have hrow : (l.map Va.pay)[i]? = some v.pay := by rw [List.getElem?_map, hv]; rfl
  have hrowT : (ts.map Ty.pay)[i]? = some t.pay := by rw [List.getElem?_map, ht]; rfl
  have hiI : (i : Int) < (l.length : Int) := by omega
  have hiT : (i : Int) < (ts.length : Int) := by omega
  have hC := rcheck_ev (v := v) (t := t) h256 H
  have h0b : (chkV v t != 0) = true := by simpa using hck
  unfold rbFr
  generalize chkV v t = ck at *
  generalize (restB ((zr l ts).take i)).length = nr at *
  generalize l.map Va.pay = L at *
  generalize ts.map Ty.pay = T at *
  simp only [Va.pay, Ty.pay] at hC hrow hrowT
  refine ⟨0, ?_⟩
  simp (maxSteps := 2000000) -implicitDefEqProofs [-getElem?_pos, List.getElem?_cons_zero, List.getElem?_cons_succ, go_sem, eqV, plen, loadV, storeV, hlt, hiI, hLl, hrow, hltT, hiT, hTl, hrowT, hC, h0b, retagL, retag, retagP, flatCells, splice, scalars, scalar, mkVa, mkTy, assignV, emB]

set_option maxRecDepth 100000 in
set_option maxHeartbeats 4000000 in
theorem rb_loop (ob0 : AM.Obj) (o : Nat) (H : AM.Heap) (hl : ∀ v ∈ l, v.okR) (ht : ∀ t ∈ ts, t.t < 256) (hn : l.length ≤ 4096) (hnt : l.length = ts.length) (hm : l.length + 2 ≤ 8 * m8) (hR : (restB (zr l ts)).length ≤ 90000) (hH : bnHp l ts 0 m8 ob0 0 o H) :
    ∃ code, ((Try.f12.body).bind (codeAt [1, 1, 1, 1, 1, 0, 1])) = some code ∧
      Tells (Or2 (fun fr H => (∀ (i : Nat) (v : Va) (t : Ty), l[i]? = some v → ts[i]? = some t → chkV v t = 0) ∧ ∃ o, fr = rbFr A d l e ts m8 l.length o ++ [(27, .bool false)] ∧ bnHp l ts 0 m8 ob0 l.length o H) (fun out => out.ex = .ret ∧ (zr l ts).any Pm.bad = true ∧ ∃ o, getF out.fr 6 = .sl o 0 0 0 ∧ getF out.fr 7 = .int .i64 2 ∧ out.H[o]? = some (some nilB)))
       X (evT X) 12 0 code (rbFr A d l e ts m8 0 o) H := by
  refine ⟨_, rfl, ?_⟩
  have hLl : (l.map Va.pay).length = l.length := List.length_map _
  apply Tells.blockOr
  refine Tells.loopP (fun k fr H => ∃ i o, k = l.length - i ∧ i ≤ l.length ∧ fr = rbFr A d l e ts m8 i o ∧ bnHp l ts 0 m8 ob0 i o H ∧ ∀ (j : Nat) (v : Va) (t : Ty), j < i → l[j]? = some v → ts[j]? = some t → chkV v t = 0) ?_ (k := l.length) ⟨0, o, rfl, by omega, rfl, hH, by omega⟩
  rintro k fr H ⟨i, o, rfl, hi, rfl, hH, hall⟩
  apply Tells.assoc
  by_cases hin : i = l.length
  · subst hin
    refine Tells.of (o := ⟨.exit 0, rbFr A d l e ts m8 l.length o ++ [(27, .bool false)], H⟩) ⟨0, ?_⟩ (.inr ⟨by simp, .inl ⟨rfl, fun i v t hv ht => hall i v t (at_lt hv) hv ht, o, rfl, hH⟩⟩)
    unfold rbFr
    generalize (restB ((zr l ts).take l.length)).length = nr at *
    generalize l.map Va.pay = L at *
    generalize ts.map Ty.pay = T at *
    simp (maxSteps := 2000000) -implicitDefEqProofs [-getElem?_pos, List.getElem?_cons_zero, List.getElem?_cons_succ, go_sem, eqV, plen, loadV, storeV, hLl]
  have hiI : (i : Int) < (l.length : Int) := by omega
  obtain ⟨v, hv⟩ : ∃ p, l[i]? = some p := ⟨_, List.getElem?_eq_getElem (show i < l.length by omega)⟩
  obtain ⟨t, htt⟩ : ∃ p, ts[i]? = some p := ⟨_, List.getElem?_eq_getElem (show i < ts.length by omega)⟩
  have h256 := ht t (List.mem_of_getElem? htt)
  have hok := hl v (List.mem_of_getElem? hv)
  apply Tells.seq (fr' := rbFr A d l e ts m8 i o ++ [(27, .bool true)]) (H' := H)
  · unfold rbFr
    generalize (restB ((zr l ts).take i)).length = nr at *
    generalize l.map Va.pay = L at *
    generalize ts.map Ty.pay = T at *
    (refine ⟨0, ?_⟩; simp (maxSteps := 2000000) -implicitDefEqProofs [-getElem?_pos, List.getElem?_cons_zero, List.getElem?_cons_succ, go_sem, eqV, plen, loadV, storeV, hLl, hiI])
  apply Tells.seq (fr' := rbFr A d l e ts m8 i o ++ [(27, .bool true)]) (H' := H)
  · refine condT (by simp [evalO, getF, rbFr]) ?_
    exact ⟨0, rfl⟩
  by_cases h0 : chkV v t = 0
  · refine (piece (rb_round A d l e ts m8 ob0 i o v t H hn hnt hm hR hv htt h256 hok h0 hH) _ rfl).mono ?_
    rintro q ⟨h1, o', h2, h3⟩
    refine .inl ⟨h1, l.length - (i + 1), by omega, i + 1, o', rfl, by omega, h2, h3, fun j v' t' hj hv' ht' => ?_⟩
    by_cases hji : j = i
    · subst hji
      rw [hv] at hv'; obtain rfl := Option.some.inj hv'
      rw [htt] at ht'; obtain rfl := Option.some.inj ht'
      exact h0
    · exact hall j v' t' (by omega) hv' ht'
  · exact Tells.of (piece (rb_bad A d l e ts m8 i o v t H hn hnt hv htt h256 h0) _ rfl) (.inr ⟨by simp, .inr ⟨rfl, rfl, zr_bad hv htt h0, H.length, rfl, rfl, by simp⟩⟩)

end

section
variable (c : Nat) (b : List UInt8) (d : Nat) (l : List Va) (e : Nat) (ts : List Ty)

set_option maxRecDepth 100000 in
set_option maxHeartbeats 4000000 in
theorem rbapp_code (hc : c = 0 → b = []) (hb : b.length ≤ 2000000) (hl : ∀ v ∈ l, v.okR) (ht : ∀ t ∈ ts, t.t < 256) (hR : (restB (zr l ts)).length ≤ 90000) (hlb : l.length ≤ 100000000) : ∃ code, Try.f12.body = some code ∧
    Tells (Rets fun fr H => ∃ o g ob, getF fr 6 = .sl o 0 (bnApp b l ts).1.length g ∧ getF fr 7 = .int .i64 (bnApp b l ts).2 ∧ H[o]? = some (some ob) ∧ Rw (.pb (bnApp b l ts).1) g ob) X (evT X) 12 0 code [(0, .ro c (.pb b) 1), (1, .ro d (.pr 12 (l.map Va.pay)) 2), (2, .ro e (.pr 2 (ts.map Ty.pay)) 3)] [] := by
  refine ⟨_, rfl, ?_⟩
  obtain ⟨L, hLm⟩ : ∃ L, l.map Va.pay = L := ⟨_, rfl⟩
  obtain ⟨T, hTm⟩ : ∃ L, ts.map Ty.pay = L := ⟨_, rfl⟩
  have hLl : L.length = l.length := by rw [← hLm]; exact List.length_map _
  have hTl : T.length = ts.length := by rw [← hTm]; exact List.length_map _
  rw [hLm, hTm]
  apply Tells.seq (fr' := [(0, .ro c (.pb b) 1), (1, .ro d (.pr 12 L) 2), (2, .ro e (.pr 2 T) 3)]) (H' := [some nilB])
  · (refine ⟨0, ?_⟩; simp (maxSteps := 2000000) -implicitDefEqProofs [-getElem?_pos, List.getElem?_cons_zero, List.getElem?_cons_succ, go_sem, eqV, plen, loadV, storeV, assignV, emB])
  by_cases h5 : 4096 < ts.length
  · rw [show bnApp b l ts = ([], 3) from if_pos h5]
    refine Tells.of (o := ⟨.ret, [(6, .sl 1 0 0 0), (7, .int .i64 3)], [some nilB, some nilB]⟩) ?_ ⟨rfl, 1, 0, nilB, rfl, rfl, rfl, nilB_rw⟩
    apply Run.seq_out (hne := by simp)
    have h5i : (4096 : Int) < (ts.length : Int) := by omega
    refine ⟨0, ?_⟩
    simp (maxSteps := 2000000) -implicitDefEqProofs [-getElem?_pos, List.getElem?_cons_zero, List.getElem?_cons_succ, go_sem, eqV, plen, loadV, storeV, assignV, emB, h5i, hTl]
  have h5i : ¬ (4096 : Int) < (ts.length : Int) := by omega
  apply Tells.seq (fr' := [(0, .ro c (.pb b) 1), (1, .ro d (.pr 12 L) 2), (2, .ro e (.pr 2 T) 3), (13, .bool false)]) (H' := [some nilB])
  · (refine ⟨0, ?_⟩; simp (maxSteps := 2000000) -implicitDefEqProofs [-getElem?_pos, List.getElem?_cons_zero, List.getElem?_cons_succ, go_sem, eqV, plen, loadV, storeV, assignV, emB, h5i, hTl])
  by_cases hnt : l.length ≠ ts.length
  · rw [show bnApp b l ts = ([], 2) by unfold bnApp; rw [if_neg h5, if_pos hnt]]
    have hnb : ((l.length : Int) != (ts.length : Int)) = true := by simp; omega
    refine Tells.of (o := ⟨.ret, [(6, .sl 1 0 0 0), (7, .int .i64 2)], [some nilB, some nilB]⟩) ?_ ⟨rfl, 1, 0, nilB, rfl, rfl, rfl, nilB_rw⟩
    apply Run.seq_out (hne := by simp)
    refine ⟨0, ?_⟩
    simp (maxSteps := 2000000) -implicitDefEqProofs [-getElem?_pos, List.getElem?_cons_zero, List.getElem?_cons_succ, go_sem, eqV, plen, loadV, storeV, assignV, emB, hLl, hTl, hnb]
  have hnt : l.length = ts.length := by omega
  have hnb : ((l.length : Int) != (ts.length : Int)) = false := by rw [hnt]; simp
  apply Tells.seq (fr' := [(0, .ro c (.pb b) 1), (1, .ro d (.pr 12 L) 2), (2, .ro e (.pr 2 T) 3), (18, .bool false)]) (H' := [some nilB])
  · (refine ⟨0, ?_⟩; simp (maxSteps := 2000000) -implicitDefEqProofs [-getElem?_pos, List.getElem?_cons_zero, List.getElem?_cons_succ, go_sem, eqV, plen, loadV, storeV, hLl, hTl, hnb])
  have hM := mkB (n := (l.length + 9) / 8) (by omega) [some nilB]
  have w7 : IntKind.i64.wrap ((l.length : Int) + 9) = ((l.length + 9 : Nat) : Int) := by rw [wrap_i64 (by omega) (by omega)]; omega
  have w8 : IntKind.i64.wrap (((l.length + 9 : Nat) : Int) / 8) = (((l.length + 9) / 8 : Nat) : Int) := by
    rw [wrap_i64 (by omega) (by omega)]; omega
  simp only [List.length_append, List.length_cons, List.length_nil, Nat.zero_add] at hM
  generalize hm8 : (l.length + 9) / 8 = m8 at *
  generalize hn7 : l.length + 9 = n7 at *
  apply Tells.seq (fr' := [(0, .ro c (.pb b) 1), (1, .ro d (.pr 12 L) 2), (2, .ro e (.pr 2 T) 3), (8, .sl 1 0 m8 0)]) (H' := [some nilB, some (bitO m8 (zer m8))])
  · (refine ⟨0, ?_⟩; simp (maxSteps := 2000000) -implicitDefEqProofs [-getElem?_pos, List.getElem?_cons_zero, List.getElem?_cons_succ, go_sem, eqV, plen, loadV, storeV, assignV, hLl, w7, w8, hM, bitO, zer])
  apply Tells.seq (fr' := [(0, .ro c (.pb b) 1), (1, .ro d (.pr 12 L) 2), (2, .ro e (.pr 2 T) 3), (8, .sl 1 0 m8 0), (9, .sl 2 0 0 0)]) (H' := [some nilB, some (bitO m8 (zer m8)), some nilB])
  · (refine ⟨0, ?_⟩; simp (maxSteps := 2000000) -implicitDefEqProofs [-getElem?_pos, List.getElem?_cons_zero, List.getElem?_cons_succ, go_sem, eqV, plen, loadV, storeV, assignV, emB])
  apply Tells.assoc
  apply Tells.seq (fr' := rbFr (.ro c (.pb b) 1) d l e ts m8 0 2) (H' := [some nilB, some (bitO m8 (zer m8)), some nilB])
  · have r0 : (restB ((zr l ts).take 0)).length = 0 := rfl
    unfold rbFr
    rw [r0, hLm, hTm]
    (refine ⟨0, ?_⟩; simp (maxSteps := 2000000) -implicitDefEqProofs [-getElem?_pos, List.getElem?_cons_zero, List.getElem?_cons_succ, go_sem, eqV, plen, loadV, storeV])
  have hH0 : bnHp l ts 0 m8 nilB 0 2 [some nilB, some (bitO m8 (zer m8)), some nilB] := ⟨nilB, rfl, rfl, by omega, rfl, nilB_rw⟩
  apply Tells.or (P := fun fr H => (∀ (i : Nat) (v : Va) (t : Ty), l[i]? = some v → ts[i]? = some t → chkV v t = 0) ∧ ∃ o, fr = rbFr (.ro c (.pb b) 1) d l e ts m8 l.length o ++ [(27, .bool false)] ∧ bnHp l ts 0 m8 nilB l.length o H)
  · refine (piece (rb_loop (.ro c (.pb b) 1) d l e ts m8 nilB 2 _ hl ht (by omega) hnt (by omega) hR hH0) _ rfl).mono ?_
    rintro out (h | ⟨h1, h2, hbd, o, q6, q7, q8⟩)
    · exact .inl h
    · have hbd : bnApp b l ts = ([], 2) := by unfold bnApp; rw [if_neg h5, if_neg (by omega), if_pos hbd]
      exact .inr ⟨h1, h2, o, 0, nilB, by rw [hbd]; exact q6, by rw [hbd]; exact q7, q8, by rw [hbd]; exact nilB_rw⟩
  rintro fr H ⟨hok, o, rfl, obr, q0, q1, hoK, q3, hr⟩
  have hpa : bnApp b l ts = (b ++ bnB (zr l ts), 0) := by
    unfold bnApp
    rw [if_neg h5, if_neg (by omega), if_neg (zr_fine hnt hok)]
  have hzl := zr_len hnt
  rw [hpa]
  have hzt : (zr l ts).take l.length = zr l ts := List.take_of_length_le (by omega)
  rw [hzt] at hr
  have hbl : (bitN (nulP (zr l ts)) 2 (zer m8) l.length).length = m8 := by rw [bitN_len]; simp [zer]
  have hbB : bnB (zr l ts) = 0 :: (bitN (nulP (zr l ts)) 2 (zer m8) l.length ++ restB (zr l ts)) := by unfold bnB bitsR; rw [hzl, hn7, hm8]
  rw [hbB]
  generalize bitN (nulP (zr l ts)) 2 (zer m8) l.length = bs at *
  have hwb : Rw (.pb bs) 0 (bitO m8 bs) := ⟨rfl, rfl, rfl, rfl, rfl⟩
  have hA0 := app_lit (H := H) (src := .ro c (.pb b) 1) (.inl rfl) (by omega)
  have hK : (H ++ [some (⟨.pb b, 0, .none, 1, true, false, 0⟩ : AM.Obj)])[H.length]? = some (some ⟨.pb b, 0, .none, 1, true, false, 0⟩) := by simp
  obtain ⟨ob1, hw1, hA1⟩ := app_b (H := H ++ [some (⟨.pb b, 0, .none, 1, true, false, 0⟩ : AM.Obj)]) (o := H.length) (g := 0) (l := b) (m := [0]) (src := .ro 1 (.pb [0]) 0) hK ⟨rfl, rfl, rfl, rfl, rfl⟩ (.inl rfl) (by simp; omega)
  have hup : upd (H ++ [some (⟨.pb b, 0, .none, 1, true, false, 0⟩ : AM.Obj)]) H.length (some ob1) = H ++ [some ob1] := by unfold upd; simp
  rw [hup] at hA1
  have hK1 : (H ++ [some ob1])[H.length]? = some (some ob1) := by simp
  have q1L := at_lt q1
  have q3L := at_lt q3
  obtain ⟨ob2, hw2, hA2⟩ := app_b (H := H ++ [some ob1]) (o := H.length) (m := bs) (src := .sl 1 0 m8 0) hK1 hw1 (.inl (srcW (at_cat q1) hwb hbl.symm)) (by simp; omega)
  have hup2 : upd (H ++ [some ob1]) H.length (some ob2) = H ++ [some ob2] := by unfold upd; simp
  rw [hup2, show (b ++ [(0 : UInt8)]).length = b.length + 1 by simp, hbl] at hA2
  have hK2 : (H ++ [some ob2])[H.length]? = some (some ob2) := by simp
  obtain ⟨ob3, hw3, hA3⟩ := app_b (H := H ++ [some ob2]) (o := H.length) (m := restB (zr l ts)) (src := .sl o 0 (restB (zr l ts)).length 0) hK2 hw2 (.inl (srcW (at_cat q3) hr rfl)) (by simp; omega)
  have hup3 : upd (H ++ [some ob2]) H.length (some ob3) = H ++ [some ob3] := by unfold upd; simp
  rw [hup3, show (b ++ [(0 : UInt8)] ++ bs).length = b.length + 1 + m8 by simp [hbl]; omega] at hA3
  have hbs := fun H => bsK H 0 0 rfl
  have hb0 := fun H => bs0 H
  refine Tells.of (o := ⟨.ret, [(6, .sl H.length 0 (b.length + 1 + m8 + (restB (zr l ts)).length) 3), (7, .int .i64 0)], H ++ [some ob3]⟩) ⟨0, ?_⟩ ⟨rfl, H.length, 3, ob3, ?_, rfl, by simp, ?_⟩
  · unfold rbFr
    rw [hLm, hTm, hzt]
    generalize (restB (zr l ts)).length = n2 at *
    simp only [List.length_cons, List.length_nil, Nat.zero_add, Nat.reduceAdd] at hA1 hA2 hA3
    simp (maxSteps := 2000000) -implicitDefEqProofs [-getElem?_pos, List.getElem?_cons_zero, List.getElem?_cons_succ, go_sem, eqV, plen, loadV, storeV, hb0, hbs, hA0, hA1, hA2, hA3, assignV]
  · simp only [getF, List.length_append, List.length_cons]; simp; omega
  · rw [show b ++ 0 :: (bs ++ restB (zr l ts)) = b ++ [0] ++ bs ++ restB (zr l ts) by simp]; exact hw3

end

theorem rbapp_ev {H : AM.Heap} {a A B : AV} {b : List UInt8} {l : List Va} {ts : List Ty} (h : Byt H a b) (hA : RoV H A l) (hB : RoT H B ts) (hb : b.length ≤ 2000000) (hl : ∀ p ∈ l, p.okR) (ht : ∀ t ∈ ts, t.t < 256) (hR : (restB (zr l ts)).length ≤ 90000) (hlb : l.length ≤ 100000000) :
    ∃ ob, Rw (.pb (bnApp b l ts).1) 0 ob ∧ evT X 12 [a, A, B] H = some (.tup [.sl H.length 0 (bnApp b l ts).1.length 0, .int .i64 (bnApp b l ts).2], H ++ [some ob]) := by
  obtain ⟨e, pt, xt, hpt, he, hxt⟩ := args_t (f := 12) (i := 2) rfl hB (args_nil 3)
  obtain ⟨d, pv, xv, hpv, hd, hxv⟩ := args_v (f := 12) (i := 1) rfl hA hxt
  obtain ⟨c, p, xl, hp, hc, hx'⟩ := args_byt (C := X) (f := 12) (i := 0) rfl h hxv
  obtain ⟨code, hcode, hr⟩ := rbapp_code c b d l e ts hc hb hl ht hR hlb
  obtain ⟨ob, q1, q2⟩ := Ev1.newB (H := H) (n := (bnApp b l ts).1.length) (l := (bnApp b l ts).1) (rest := [.int .i64 (bnApp b l ts).2]) (evT_below X) Try.func12 hcode hx' (by simp [idsL, ids, hp.ids, hpv.ids, hpt.ids]) (by simp [gtag]) rfl rfl rfl (by
    obtain ⟨o, ⟨he, o1, g, ob, q1, q2, q3, q4⟩, hrun⟩ := hr
    exact ⟨o, ⟨he, o1, g, ob, by show some [getF o.fr 6, getF o.fr 7] = _; rw [q1, q2], q3, q4⟩, by rw [par12, coB hp, coV hpv, coT hpt, coerce_nil]; exact hrun⟩)
  exact ⟨ob, q1, evT_eq q2⟩

end Go.Proofs.Ytafdnpcamepbmaa

/- Walks: a text row written. -/
namespace Go.Proofs.Ytafdnpcamepbmaa
open Go.AM
set_option linter.unusedSimpArgs false
set_option linter.unusedVariables false

def tcFr (A L : AV) (n i : Nat) : AM.Frame := [(0, A), (1, L), (14, L), (15, .int .i64 (n : Nat)), (16, .int .i64 (i : Nat))]

section
variable (c : Nat) (b : List UInt8) (d : Nat) (l : List Va)

/-- a round's frame -/
def twFr (i o g : Nat) : AM.Frame := [(8, .sl o 0 (b ++ txR (l.take i)).length g), (27, .ro d (.pr 12 (l.map Va.pay)) 2), (28, .int .i64 (l.length : Nat)), (29, .int .i64 (i : Nat))]

set_option maxRecDepth 100000 in
set_option maxHeartbeats 4000000 in
theorem tw_round (i o g : Nat) (v : Va) (ob : AM.Obj) (H : AM.Heap) (hn : l.length ≤ 4096) (hp : l[i]? = some v) (hb : b.length ≤ 2000000) (hT : (txR l).length ≤ 1000000) (hs : v.t.length ≤ 16777216) (ho : H[o]? = some (some ob)) (hw : Rw (.pb (b ++ txR (l.take i))) g ob) :
    ∃ code, ((Try.f7.body).bind (codeAt [1, 1, 1, 1, 0, 1, 0, 0, 1, 1])) = some code ∧
      Tells (Goes fun fr H' => ∃ o' g' ob', fr = twFr b d l (i + 1) o' g' ∧ H'[o']? = some (some ob') ∧ Rw (.pb (b ++ txR (l.take (i + 1)))) g' ob') X (evT X) 7 0 code (twFr b d l i o g ++ [(30, .bool true)]) H := by
  refine ⟨_, rfl, ?_⟩
  have hlt := at_lt hp
  have hLl : (l.map Va.pay).length = l.length := List.length_map _
  have hrow : (l.map Va.pay)[i]? = some v.pay := by rw [List.getElem?_map, hp]; rfl
  have hiI : (i : Int) < (l.length : Int) := by omega
  have hcat := txR_take hp
  have hle := txR_le l i
  have w1 : IntKind.i64.wrap ((i : Int) + 1) = ((i + 1 : Nat) : Int) := by rw [wrap_i64 (by omega) (by omega)]; omega
  have hnew : ∀ x : Option AM.Obj, (H ++ [x])[H.length]? = some x := fun x => by simp
  by_cases hk : v.k = 0
  · have ht : txV v = [251] := if_pos hk
    rw [ht] at hcat
    obtain ⟨ob1, hw1, hA⟩ := app_b (H := H ++ [some (vaO v)]) (o := o) (m := [251]) (src := .ro 1 (.pb [251]) 0) (at_cat ho) hw (.inl rfl) (by simp; omega)
    have hbs := fun H => bsK H 251 251 rfl
    rw [List.append_assoc, ← hcat] at hw1
    have hl1 : (b ++ txR (l.take (i + 1))).length = (b ++ txR (l.take i)).length + 1 := by rw [hcat]; simp; omega
    refine Tells.of (o := ⟨.normal, twFr b d l (i + 1) o (g + 1), upd (H ++ [some (vaO v)]) o (some ob1)⟩) ⟨0, ?_⟩ ⟨rfl, o, g + 1, ob1, rfl, at_set (at_cat ho), hw1⟩
    unfold twFr
    rw [hl1]
    simp only [List.length_cons, List.length_nil, Nat.zero_add] at hA
    generalize (b ++ txR (l.take i)).length = n at *
    generalize l.map Va.pay = L at *
    simp only [vaO, Va.pay] at hA hrow
    rw [hk] at hA hrow
    simp (maxSteps := 2000000) -implicitDefEqProofs [-getElem?_pos, List.getElem?_cons_zero, List.getElem?_cons_succ, go_sem, eqV, plen, loadV, storeV, hlt, hiI, hLl, hrow, vaO, Va.pay, hk, retagL, retag, retagP, flatCells, splice, scalars, scalar, hnew, mkVa, hbs, hA, w1, assignV]
  · have ht : txV v = aT v.t := if_neg hk
    rw [ht] at hcat
    have hkb : (v.k == 0) = false := by simpa using hk
    obtain ⟨ob1, hw1, hA⟩ := appendText_ev (H := H ++ [some (vaO v)]) (s := v.t) (Byt.whole (at_cat ho) hw) (by simp; omega) (by omega)
    rw [List.append_assoc, ← hcat] at hw1 hA
    refine Tells.of (o := ⟨.normal, twFr b d l (i + 1) (H.length + 1) 0, H ++ [some (vaO v)] ++ [some ob1]⟩) ⟨0, ?_⟩ ⟨rfl, H.length + 1, 0, ob1, rfl, by simp, hw1⟩
    unfold twFr
    generalize (b ++ txR (l.take i)).length = n at *
    generalize (b ++ txR (l.take (i + 1))).length = n1 at *
    generalize l.map Va.pay = L at *
    simp only [vaO, Va.pay] at hA hrow
    simp (maxSteps := 2000000) -implicitDefEqProofs [-getElem?_pos, List.getElem?_cons_zero, List.getElem?_cons_succ, go_sem, eqV, plen, loadV, storeV, hlt, hiI, hLl, hrow, vaO, Va.pay, hkb, retagL, retag, retagP, flatCells, splice, scalars, scalar, hnew, mkVa, hA, w1, assignV]

set_option maxRecDepth 100000 in
set_option maxHeartbeats 4000000 in
/-- a round: the row's check -/
theorem tc_chk (A : AV) (i : Nat) (v : Va) (H : AM.Heap) (k : Nat) (ho : v.okR) (hk : H[k]? = some (some (vaO v))) :
    ∃ code, ((Try.f7.body).bind (codeAt [1, 1, 0, 1, 0, 0, 1, 1, 0, 0, 1, 0])) = some code ∧ Run X (evT X) 7 0 code [(0, A), (1, .ro d (.pr 12 (l.map Va.pay)) 2), (7, .ptr k 0 0 0), (14, .ro d (.pr 12 (l.map Va.pay)) 2), (15, .int .i64 (l.length : Nat)), (16, .int .i64 (i : Nat))] H
      ⟨.normal, tcFr A (.ro d (.pr 12 (l.map Va.pay)) 2) l.length i ++ [(23, .bool (chkV v tyVS != 0))], H⟩ := by
  refine ⟨_, rfl, ?_⟩
  have hC := check_ev (v := v) (t := tyVS) (by decide) ho.1 ho.2 H
  have hX := texts_ev H
  have hlt := at_lt hk
  generalize l.map Va.pay = L at *
  generalize chkV v tyVS = ck at *
  unfold tcFr
  simp only [Va.pay, Ty.pay] at hC hX
  apply Run.dy (by simp) keep7_6 (by simp)
  · (conv => lhs; simp (maxSteps := 2000000) -implicitDefEqProofs [-getElem?_pos, List.getElem?_cons_zero, List.getElem?_cons_succ, go_sem, eqV, plen, loadV, storeV, runD, out1, markOf, freeO, quietO, pushes, isAssign, calledV, touched, mentioned, opVals, touchCall, mentionCall, idsAt, Op.operands, ids, idsL, lendArgs, lendV, lend1, lendL, eqH_self, hk, vaO, Va.pay, mkVa, mkTy, hC, hX, retagL, retag, retagP, flatCells, splice, scalars, scalar])
  · refine marksOk_of (ps := [(0, 1)]) (by kernel_rfl) ?_
    simp [bearP, bear]
  · rfl

set_option maxRecDepth 100000 in
set_option maxHeartbeats 4000000 in
theorem tc_loop (A : AV) (H : AM.Heap) (hl : ∀ v ∈ l, v.okR) (hn : l.length ≤ 4096) :
    ∃ code, ((Try.f7.body).bind (codeAt [1, 1, 0, 1])) = some code ∧
      Tells (Or2 (fun fr H => (∀ p ∈ l, chkV p tyVS = 0) ∧ fr = tcFr A (.ro d (.pr 12 (l.map Va.pay)) 2) l.length l.length ++ [(17, .bool false)]) (fun out => out.ex = .ret ∧ (∃ p ∈ l, chkV p tyVS ≠ 0) ∧ ∃ o, getF out.fr 4 = .sl o 0 0 0 ∧ getF out.fr 5 = .int .i64 2 ∧ out.H[o]? = some (some nilB))) X (evT X) 7 0 code (tcFr A (.ro d (.pr 12 (l.map Va.pay)) 2) l.length 0) H := by
  refine ⟨_, rfl, ?_⟩
  have hLl : (l.map Va.pay).length = l.length := List.length_map _
  apply Tells.blockOr
  refine Tells.loopP (fun k fr H => ∃ i, k = l.length - i ∧ i ≤ l.length ∧ fr = tcFr A (.ro d (.pr 12 (l.map Va.pay)) 2) l.length i ∧ ∀ j p, j < i → l[j]? = some p → chkV p tyVS = 0) ?_ (k := l.length) ⟨0, rfl, by omega, rfl, by omega⟩
  rintro k fr H ⟨i, rfl, hi, rfl, hall⟩
  by_cases hin : i = l.length
  · subst hin
    refine Tells.of (o := ⟨.exit 0, tcFr A (.ro d (.pr 12 (l.map Va.pay)) 2) l.length l.length ++ [(17, .bool false)], H⟩) ⟨0, ?_⟩ (.inr ⟨by simp, .inl ⟨rfl, fun p hp => ?_, rfl⟩⟩)
    · generalize l.map Va.pay = L at *
      simp (maxSteps := 2000000) -implicitDefEqProofs [-getElem?_pos, List.getElem?_cons_zero, List.getElem?_cons_succ, go_sem, eqV, plen, loadV, storeV, tcFr]
    · obtain ⟨j, hj, rfl⟩ := List.mem_iff_getElem.1 hp
      exact hall j _ hj (List.getElem?_eq_getElem hj)
  have hlt : i < l.length := by omega
  have hiI : (i : Int) < (l.length : Int) := by omega
  obtain ⟨v, hv⟩ : ∃ p, l[i]? = some p := ⟨_, List.getElem?_eq_getElem hlt⟩
  have hrow : (l.map Va.pay)[i]? = some v.pay := by rw [List.getElem?_map, hv]; rfl
  have hm := List.mem_of_getElem? hv
  have hnew : ∀ x : Option AM.Obj, (H ++ [x])[H.length]? = some x := fun x => by simp
  have w1 : IntKind.i64.wrap ((i : Int) + 1) = ((i + 1 : Nat) : Int) := by rw [wrap_i64 (by omega) (by omega)]; omega
  have hchk := tc_chk d l A i v (H ++ [some (vaO v)]) H.length (hl v hm) (hnew _)
  apply Tells.seq (fr' := tcFr A (.ro d (.pr 12 (l.map Va.pay)) 2) l.length i ++ [(17, .bool true)]) (H' := H)
  · generalize l.map Va.pay = L at *
    (refine ⟨0, ?_⟩; simp (maxSteps := 2000000) -implicitDefEqProofs [-getElem?_pos, List.getElem?_cons_zero, List.getElem?_cons_succ, go_sem, eqV, plen, loadV, storeV, tcFr, hiI])
  apply Tells.seq (fr' := tcFr A (.ro d (.pr 12 (l.map Va.pay)) 2) l.length i ++ [(17, .bool true)]) (H' := H)
  · refine condT (by simp [evalO, getF, tcFr]) ?_
    exact ⟨0, rfl⟩
  apply Tells.or (P := fun fr H' => chkV v tyVS = 0 ∧ fr = tcFr A (.ro d (.pr 12 (l.map Va.pay)) 2) l.length i ++ [(23, .bool false)])
  · apply Tells.blkOr
    · apply Tells.seq (fr' := [(0, A), (1, .ro d (.pr 12 (l.map Va.pay)) 2), (7, .ptr H.length 0 0 0), (14, .ro d (.pr 12 (l.map Va.pay)) 2), (15, .int .i64 (l.length : Nat)), (16, .int .i64 (i : Nat))]) (H' := H ++ [some (vaO v)])
      · generalize l.map Va.pay = L at *
        simp only [Va.pay] at hrow
        (refine ⟨0, ?_⟩; simp (maxSteps := 2000000) -implicitDefEqProofs [-getElem?_pos, List.getElem?_cons_zero, List.getElem?_cons_succ, go_sem, eqV, plen, loadV, storeV, tcFr, hlt, hLl, hrow, vaO, Va.pay, hnew, mkVa, retagL, retag, retagP, flatCells, splice, scalars, scalar])
      apply Tells.seq (piece hchk _ rfl)
      by_cases h0 : chkV v tyVS = 0
      · have h0b : (chkV v tyVS != 0) = false := by rw [h0]; rfl
        rw [h0b]
        refine Tells.condF (by simp [evalO, getF, tcFr]) ?_
        exact Tells.of (o := ⟨.normal, _, _⟩) ⟨0, rfl⟩ (.inl ⟨rfl, h0, rfl⟩)
      · have h0b : (chkV v tyVS != 0) = true := by simpa using h0
        rw [h0b]
        refine Tells.condT (by simp [evalO, getF, tcFr]) ?_
        refine Tells.of (o := ⟨.ret, [(4, .sl (H.length + 1) 0 0 0), (5, .int .i64 2)], H ++ [some (vaO v)] ++ [some nilB]⟩) ⟨0, ?_⟩ (.inr ⟨by simp, .inr ⟨by simp, .inr ⟨rfl, rfl, ⟨v, hm, h0⟩, H.length + 1, rfl, rfl, by simp⟩⟩⟩)
        generalize l.map Va.pay = L at *
        simp (maxSteps := 2000000) -implicitDefEqProofs [-getElem?_pos, List.getElem?_cons_zero, List.getElem?_cons_succ, go_sem, eqV, plen, loadV, storeV, tcFr, assignV, emB]
    · rintro o (⟨h1, _⟩ | ⟨_, ⟨h2, _⟩ | ⟨h2, _⟩⟩)
      · rw [h1]; simp
      · rw [h2]; simp
      · rw [h2]; simp
  rintro fr H' ⟨h0, rfl⟩
  refine Tells.of (o := ⟨.normal, tcFr A (.ro d (.pr 12 (l.map Va.pay)) 2) l.length (i + 1), H'⟩) ⟨0, ?_⟩ (.inl ⟨rfl, l.length - (i + 1), by omega, i + 1, rfl, by omega, rfl, fun j q hj hq => ?_⟩)
  · generalize l.map Va.pay = L at *
    simp (maxSteps := 2000000) -implicitDefEqProofs [-getElem?_pos, List.getElem?_cons_zero, List.getElem?_cons_succ, go_sem, eqV, plen, loadV, storeV, tcFr, w1]
  · by_cases hji : j = i
    · subst hji; rw [hv] at hq; obtain rfl := Option.some.inj hq
      exact h0
    · exact hall j q (by omega) hq

set_option maxRecDepth 100000 in
set_option maxHeartbeats 4000000 in
theorem tapp_code (hc : c = 0 → b = []) (hb : b.length ≤ 2000000) (hl : ∀ v ∈ l, v.okR) (hT : (txR l).length ≤ 1000000) : ∃ code, Try.f7.body = some code ∧
    Tells (Rets fun fr H => ∃ o g ob, getF fr 4 = .sl o 0 (txApp b l).1.length g ∧ getF fr 5 = .int .i64 (txApp b l).2 ∧ H[o]? = some (some ob) ∧ Rw (.pb (txApp b l).1) g ob) X (evT X) 7 0 code [(0, .ro c (.pb b) 1), (1, .ro d (.pr 12 (l.map Va.pay)) 2)] [] := by
  refine ⟨_, rfl, ?_⟩
  have hLat : ∀ (i : Nat) (v : Va), l[i]? = some v → (l.map Va.pay)[i]? = some v.pay := fun i p h => (by rw [List.getElem?_map, h]; rfl)
  have hLl : (l.map Va.pay).length = l.length := List.length_map _
  generalize hLm : l.map Va.pay = L at *
  apply Tells.seq (fr' := [(0, .ro c (.pb b) 1), (1, .ro d (.pr 12 L) 2)]) (H' := [some nilB])
  · (refine ⟨0, ?_⟩; simp (maxSteps := 2000000) -implicitDefEqProofs [-getElem?_pos, List.getElem?_cons_zero, List.getElem?_cons_succ, go_sem, eqV, plen, loadV, storeV, assignV, emB])
  by_cases h5 : 4096 < l.length
  · rw [show txApp b l = ([], 3) from if_pos h5]
    refine Tells.of (o := ⟨.ret, [(4, .sl 1 0 0 0), (5, .int .i64 3)], [some nilB, some nilB]⟩) ?_ ⟨rfl, 1, 0, nilB, rfl, rfl, rfl, nilB_rw⟩
    apply Run.seq_out (hne := by simp)
    have h5i : (4096 : Int) < (l.length : Int) := by omega
    refine ⟨0, ?_⟩
    simp (maxSteps := 2000000) -implicitDefEqProofs [-getElem?_pos, List.getElem?_cons_zero, List.getElem?_cons_succ, go_sem, eqV, plen, loadV, storeV, assignV, emB, h5i, hLl]
  have hbad : ∀ p ∈ l, chkV p tyVS ≠ 0 → txApp b l = ([], 2) := by
    intro p hp hb
    unfold txApp
    rw [if_neg h5, if_pos (List.any_eq_true.2 ⟨p, hp, by simpa using hb⟩)]
  have h5i : ¬ (4096 : Int) < (l.length : Int) := by omega
  apply Tells.seq (fr' := [(0, .ro c (.pb b) 1), (1, .ro d (.pr 12 L) 2), (13, .bool false)]) (H' := [some nilB])
  · (refine ⟨0, ?_⟩; simp (maxSteps := 2000000) -implicitDefEqProofs [-getElem?_pos, List.getElem?_cons_zero, List.getElem?_cons_succ, go_sem, eqV, plen, loadV, storeV, assignV, emB, h5i, hLl])
  apply Tells.assoc
  apply Tells.seq (fr' := tcFr (.ro c (.pb b) 1) (.ro d (.pr 12 L) 2) l.length 0) (H' := [some nilB])
  · (refine ⟨0, ?_⟩; simp (maxSteps := 2000000) -implicitDefEqProofs [-getElem?_pos, List.getElem?_cons_zero, List.getElem?_cons_succ, go_sem, eqV, plen, loadV, storeV, assignV, emB, tcFr, hLl])
  generalize hHH : ([some nilB] : AM.Heap) = HH
  have hmem : ∀ (i : Nat) p, l[i]? = some p → p ∈ l := fun i p h => List.mem_of_getElem? h
  rw [← hLm]
  apply Tells.or (P := fun fr H => (∀ p ∈ l, chkV p tyVS = 0) ∧ fr = tcFr (.ro c (.pb b) 1) (.ro d (.pr 12 (l.map Va.pay)) 2) l.length l.length ++ [(17, .bool false)])
  · refine (piece (tc_loop d l (.ro c (.pb b) 1) HH hl (by omega)) _ rfl).mono ?_
    rintro out (h | ⟨h1, h2, ⟨p, hp, hb⟩, o, q6, q7, q8⟩)
    · exact .inl h
    · have hbd := hbad p hp hb
      exact .inr ⟨h1, h2, o, 0, nilB, by rw [hbd]; exact q6, by rw [hbd]; exact q7, q8, by rw [hbd]; exact nilB_rw⟩
  · rintro fr H ⟨hok, rfl⟩
    rw [hLm]
    have hany : ¬ (l.any fun v => decide (chkV v tyVS ≠ 0)) = true := by
      intro h
      obtain ⟨p, hp, hb⟩ := List.any_eq_true.1 h
      rw [hok p hp] at hb; simp at hb
    have hpa : txApp b l = (b ++ txR l, 0) := by
      unfold txApp
      rw [if_neg h5, if_neg hany]
    rw [hpa]
    obtain ⟨ob0, hw0, hA0⟩ := clone_ev (H := H) (a := .ro c (.pb b) 1) (b := b) (Byt.ro (.inl rfl) hc) (by omega)
    apply Tells.seq (fr' := [(1, .ro d (.pr 12 L) 2), (8, .sl H.length 0 b.length 0)]) (H' := H ++ [some ob0])
    · (refine ⟨0, ?_⟩; simp (maxSteps := 2000000) -implicitDefEqProofs [-getElem?_pos, List.getElem?_cons_zero, List.getElem?_cons_succ, go_sem, eqV, plen, loadV, storeV, tcFr, hA0, assignV])
    apply Tells.assoc
    have hb0 : (b ++ txR (l.take 0)).length = b.length := by rw [List.take_zero]; simp [txR]
    apply Tells.seq (fr' := twFr b d l 0 H.length 0) (H' := H ++ [some ob0])
    · unfold twFr
      rw [hb0, hLm]
      (refine ⟨0, ?_⟩; simp (maxSteps := 2000000) -implicitDefEqProofs [-getElem?_pos, List.getElem?_cons_zero, List.getElem?_cons_succ, go_sem, eqV, plen, loadV, storeV, hLl])
    apply Tells.blockThen (P := fun fr H => ∃ o g ob, fr = twFr b d l l.length o g ++ [(30, .bool false)] ∧ H[o]? = some (some ob) ∧ Rw (.pb (b ++ txR l)) g ob)
    · refine Tells.loopP (fun k fr H => ∃ i o g ob, k = l.length - i ∧ i ≤ l.length ∧ fr = twFr b d l i o g ∧ H[o]? = some (some ob) ∧ Rw (.pb (b ++ txR (l.take i))) g ob) ?_ (k := l.length) ⟨0, H.length, 0, ob0, rfl, by omega, rfl, by simp, by rw [List.take_zero]; simpa [txR] using hw0⟩
      rintro k fr H ⟨i, o, g, ob, rfl, hi, rfl, ho, hw⟩
      by_cases hin : i = l.length
      · subst hin
        rw [List.take_length] at hw
        refine Tells.of (o := ⟨.exit 2, twFr b d l l.length o g ++ [(30, .bool false)], H⟩) ⟨0, ?_⟩ (.inr ⟨by simp, .inl ⟨rfl, o, g, ob, rfl, ho, hw⟩⟩)
        simp (maxSteps := 2000000) -implicitDefEqProofs [-getElem?_pos, List.getElem?_cons_zero, List.getElem?_cons_succ, go_sem, eqV, plen, loadV, storeV, twFr]
      have hiI : (i : Int) < (l.length : Int) := by omega
      obtain ⟨v, hv⟩ : ∃ p, l[i]? = some p := ⟨_, List.getElem?_eq_getElem (show i < l.length by omega)⟩
      apply Tells.seq (fr' := twFr b d l i o g ++ [(30, .bool true)]) (H' := H)
      · (refine ⟨0, ?_⟩; simp (maxSteps := 2000000) -implicitDefEqProofs [-getElem?_pos, List.getElem?_cons_zero, List.getElem?_cons_succ, go_sem, eqV, plen, loadV, storeV, twFr, hiI])
      apply Tells.seq (fr' := twFr b d l i o g ++ [(30, .bool true)]) (H' := H)
      · refine condT (by simp [evalO, getF, twFr]) ?_
        exact ⟨0, rfl⟩
      have hs : v.t.length ≤ 16777216 := by
        rcases ok_tx (hok v (hmem i v hv)) with h | h
        · rw [h]; decide
        · exact h.2
      refine (piece (tw_round b d l i o g v ob H (by omega) hv hb hT hs ho hw) _ rfl).mono ?_
      rintro q ⟨h1, o', g', ob', h2, h3, h4⟩
      exact .inl ⟨h1, l.length - (i + 1), by omega, i + 1, o', g', ob', rfl, by omega, h2, h3, h4⟩
    rintro fr H ⟨o, g, ob, rfl, ho, hw⟩
    refine Tells.of (o := ⟨.ret, [(4, .sl o 0 (b ++ txR l).length g), (5, .int .i64 0)], H⟩) ⟨0, ?_⟩ ⟨rfl, o, g, ob, rfl, rfl, ho, hw⟩
    unfold twFr
    rw [List.take_length]
    generalize (b ++ txR l).length = n at *
    simp (maxSteps := 2000000) -implicitDefEqProofs [-getElem?_pos, List.getElem?_cons_zero, List.getElem?_cons_succ, go_sem, eqV, plen, loadV, storeV, assignV]

end

theorem tapp_ev {H : AM.Heap} {a A : AV} {b : List UInt8} {l : List Va} (h : Byt H a b) (hA : RoV H A l) (hb : b.length ≤ 2000000) (hl : ∀ p ∈ l, p.okR) (hT : (txR l).length ≤ 1000000) :
    ∃ ob, Rw (.pb (txApp b l).1) 0 ob ∧ evT X 7 [a, A] H = some (.tup [.sl H.length 0 (txApp b l).1.length 0, .int .i64 (txApp b l).2], H ++ [some ob]) := by
  obtain ⟨d, pv, xv, hpv, hd, hxv⟩ := args_v (f := 7) (i := 1) rfl hA (args_nil 2)
  obtain ⟨c, p, xl, hp, hc, hx'⟩ := args_byt (C := X) (f := 7) (i := 0) rfl h hxv
  obtain ⟨code, hcode, hr⟩ := tapp_code c b d l hc hb hl hT
  obtain ⟨ob, q1, q2⟩ := Ev1.newB (H := H) (n := (txApp b l).1.length) (l := (txApp b l).1) (rest := [.int .i64 (txApp b l).2]) (evT_below X) Try.func7 hcode hx' (by simp [idsL, ids, hp.ids, hpv.ids]) (by simp [gtag]) rfl rfl rfl (by
    obtain ⟨o, ⟨he, o1, g, ob, q1, q2, q3, q4⟩, hrun⟩ := hr
    exact ⟨o, ⟨he, o1, g, ob, by show some [getF o.fr 4, getF o.fr 5] = _; rw [q1, q2], q3, q4⟩, by rw [par7, coB hp, coV hpv, coerce_nil]; exact hrun⟩)
  exact ⟨ob, q1, evT_eq q2⟩

end Go.Proofs.Ytafdnpcamepbmaa

/- Walks: the document's text row, written. -/
namespace Go.Proofs.Ytafdnpcamepbmaa
open Go.AM
set_option linter.unusedSimpArgs false
set_option linter.unusedVariables false

section
variable (c : Nat) (b : List UInt8) (d : Nat) (l : List Va)

/-- a round's frame -/
def rtFr (i o g : Nat) : AM.Frame := [(1, .ro d (.pr 12 (l.map Va.pay)) 2), (6, .sl o 0 (b ++ txR (l.take i)).length g), (7, .int .i64 (i : Nat))]

set_option maxRecDepth 100000 in
set_option maxHeartbeats 4000000 in
/-- a round: the row's check -/
theorem rt_chk (i o g : Nat) (v : Va) (H : AM.Heap) (hn : l.length ≤ 4096) (hv : l[i]? = some v) :
    ∃ code, ((Try.f9.body).bind (codeAt [1, 1, 1, 0, 1, 0, 0, 1, 0, 0, 0, 0])) = some code ∧ Run X (evT X) 9 0 code (rtFr b d l i o g ++ [(17, .bool true)]) H
      ⟨.normal, rtFr b d l i o g ++ [(26, .bool (chkV v tyVS != 0))], H⟩ := by
  refine ⟨_, rfl, ?_⟩
  have hC := rcheck_ev (v := v) (t := tyVS) (by decide) H
  have hX := plain_ev H
  have hLl : (l.map Va.pay).length = l.length := List.length_map _
  have hrow : (l.map Va.pay)[i]? = some v.pay := by rw [List.getElem?_map, hv]; rfl
  have hlt := at_lt hv
  have hiI : (i : Int) < (l.length : Int) := by omega
  unfold rtFr
  generalize (b ++ txR (l.take i)).length = n at *
  generalize l.map Va.pay = L at *
  generalize chkV v tyVS = ck at *
  simp only [Va.pay, Ty.pay] at hC hX hrow
  apply Run.dy (by simp) keep9_7 (by simp)
  · (conv => lhs; simp (maxSteps := 2000000) -implicitDefEqProofs [-getElem?_pos, List.getElem?_cons_zero, List.getElem?_cons_succ, go_sem, eqV, plen, loadV, storeV, runD, out1, markOf, freeO, quietO, pushes, isAssign, calledV, touched, mentioned, opVals, touchCall, mentionCall, idsAt, Op.operands, ids, idsL, lendArgs, lendV, lend1, lendL, eqH_self, hlt, hiI, hLl, hrow, Va.pay, Ty.pay, mkVa, mkTy, hC, hX, retagL, retag, retagP, flatCells, splice, scalars, scalar])
  · refine marksOk_of (ps := [(0, 1), (0, 4), (1, 4), (2, 4), (3, 4)]) (by kernel_rfl) ?_
    simp [bearP, bear]
  · rfl

/-- a frame behind a value -/
def rtFm (i o g : Nat) : AM.Frame := [(1, .ro d (.pr 12 (l.map Va.pay)) 2), (6, .sl o 0 (b ++ txR (l.take (i + 1))).length g), (7, .int .i64 (i : Nat))]

set_option maxRecDepth 100000 in
set_option maxHeartbeats 4000000 in
theorem rt_val (i o g : Nat) (v : Va) (ob : AM.Obj) (H : AM.Heap) (hn : l.length ≤ 4096) (hv : l[i]? = some v) (hb : b.length ≤ 2000000) (hT : (txR l).length ≤ 1000000) (hs : v.t.length ≤ 16777216) (ho : H[o]? = some (some ob)) (hw : Rw (.pb (b ++ txR (l.take i))) g ob) :
    ∃ code, ((Try.f9.body).bind (codeAt [1, 1, 1, 0, 1, 0, 0, 1, 0, 0, 1])) = some code ∧
      Tells (Goes fun fr H' => ∃ o' g' ob', fr = rtFm b d l i o' g' ∧ H'[o']? = some (some ob') ∧ Rw (.pb (b ++ txR (l.take (i + 1)))) g' ob') X (evT X) 9 0 code (rtFr b d l i o g ++ [(26, .bool false)]) H := by
  refine ⟨_, rfl, ?_⟩
  have hlt := at_lt hv
  have hLl : (l.map Va.pay).length = l.length := List.length_map _
  have hrow : (l.map Va.pay)[i]? = some v.pay := by rw [List.getElem?_map, hv]; rfl
  have hiI : (i : Int) < (l.length : Int) := by omega
  have hcat := txR_take hv
  have hle := txR_le l i
  by_cases hk : v.k = 0
  · have ht : txV v = [251] := if_pos hk
    rw [ht] at hcat
    obtain ⟨ob1, hw1, hA⟩ := app_b (H := H) (o := o) (m := [251]) (src := .ro 1 (.pb [251]) 0) ho hw (.inl rfl) (by simp; omega)
    have hbs := fun H => bsK H 251 251 rfl
    rw [List.append_assoc, ← hcat] at hw1
    have hl1 : (b ++ txR (l.take (i + 1))).length = (b ++ txR (l.take i)).length + 1 := by rw [hcat]; simp; omega
    refine Tells.of (o := ⟨.normal, rtFm b d l i o (g + 1), upd H o (some ob1)⟩) ⟨0, ?_⟩ ⟨rfl, o, g + 1, ob1, rfl, at_set ho, hw1⟩
    unfold rtFr rtFm
    rw [hl1]
    simp only [List.length_cons, List.length_nil, Nat.zero_add] at hA
    generalize (b ++ txR (l.take i)).length = n at *
    generalize l.map Va.pay = L at *
    simp only [Va.pay] at hA hrow
    rw [hk] at hrow
    simp (maxSteps := 2000000) -implicitDefEqProofs [-getElem?_pos, List.getElem?_cons_zero, List.getElem?_cons_succ, go_sem, eqV, plen, loadV, storeV, hlt, hiI, hLl, hrow, hk, hbs, hA, assignV]
  · have ht : txV v = aT v.t := if_neg hk
    rw [ht] at hcat
    have hkb : (v.k == 0) = false := by simpa using hk
    obtain ⟨ob1, hw1, hA⟩ := rappendText_ev (H := H) (s := v.t) (Byt.whole ho hw) (by simp; omega) (by omega)
    rw [List.append_assoc, ← hcat] at hw1 hA
    refine Tells.of (o := ⟨.normal, rtFm b d l i H.length 0, H ++ [some ob1]⟩) ⟨0, ?_⟩ ⟨rfl, H.length, 0, ob1, rfl, by simp, hw1⟩
    unfold rtFr rtFm
    generalize (b ++ txR (l.take i)).length = n at *
    generalize (b ++ txR (l.take (i + 1))).length = n1 at *
    generalize l.map Va.pay = L at *
    simp only [Va.pay] at hA hrow
    simp (maxSteps := 2000000) -implicitDefEqProofs [-getElem?_pos, List.getElem?_cons_zero, List.getElem?_cons_succ, go_sem, eqV, plen, loadV, storeV, hlt, hiI, hLl, hrow, hkb, hA, assignV]

set_option maxRecDepth 100000 in
set_option maxHeartbeats 4000000 in
theorem rt_loop (H : AM.Heap) (o0 : Nat) (ob0 : AM.Obj) (hn : l.length ≤ 4096) (hb : b.length ≤ 2000000) (hT : (txR l).length ≤ 1000000) (ho0 : H[o0]? = some (some ob0)) (hw0 : Rw (.pb b) 0 ob0) :
    ∃ code, ((Try.f9.body).bind (codeAt [1, 1, 1, 0, 1])) = some code ∧
      Tells (Or2 (fun fr H => (∀ p ∈ l, chkV p tyVS = 0) ∧ ∃ o g ob, fr = rtFr b d l l.length o g ++ [(17, .bool false)] ∧ H[o]? = some (some ob) ∧ Rw (.pb (b ++ txR l)) g ob) (fun out => out.ex = .ret ∧ (∃ p ∈ l, chkV p tyVS ≠ 0) ∧ ∃ o, getF out.fr 4 = .sl o 0 0 0 ∧ getF out.fr 5 = .int .i64 2 ∧ out.H[o]? = some (some nilB)))
        X (evT X) 9 0 code (rtFr b d l 0 o0 0) H := by
  refine ⟨_, rfl, ?_⟩
  have hLl : (l.map Va.pay).length = l.length := List.length_map _
  apply Tells.blockOr
  refine Tells.loopP (fun k fr H => ∃ i o g ob, k = l.length - i ∧ i ≤ l.length ∧ fr = rtFr b d l i o g ∧ H[o]? = some (some ob) ∧ Rw (.pb (b ++ txR (l.take i))) g ob ∧ ∀ j p, j < i → l[j]? = some p → chkV p tyVS = 0) ?_ (k := l.length) ⟨0, o0, 0, ob0, rfl, by omega, rfl, ho0, by rw [List.take_zero]; simpa [txR] using hw0, by omega⟩
  rintro k fr H ⟨i, o, g, ob, rfl, hi, rfl, ho, hw, hall⟩
  apply Tells.assoc
  by_cases hin : i = l.length
  · subst hin
    rw [List.take_length] at hw
    refine Tells.of (o := ⟨.exit 0, rtFr b d l l.length o g ++ [(17, .bool false)], H⟩) ⟨0, ?_⟩ (.inr ⟨by simp, .inl ⟨rfl, fun p hp => ?_, o, g, ob, rfl, ho, hw⟩⟩)
    · unfold rtFr
      generalize (b ++ txR (l.take l.length)).length = n at *
      generalize l.map Va.pay = L at *
      simp (maxSteps := 2000000) -implicitDefEqProofs [-getElem?_pos, List.getElem?_cons_zero, List.getElem?_cons_succ, go_sem, eqV, plen, loadV, storeV, hLl]
    · obtain ⟨j, hj, rfl⟩ := List.mem_iff_getElem.1 hp
      exact hall j _ hj (List.getElem?_eq_getElem hj)
  have hlt : i < l.length := by omega
  have hiI : (i : Int) < (l.length : Int) := by omega
  obtain ⟨v, hv⟩ : ∃ p, l[i]? = some p := ⟨_, List.getElem?_eq_getElem hlt⟩
  have hm := List.mem_of_getElem? hv
  have w1 : IntKind.i64.wrap ((i : Int) + 1) = ((i + 1 : Nat) : Int) := by rw [wrap_i64 (by omega) (by omega)]; omega
  apply Tells.seq (fr' := rtFr b d l i o g ++ [(17, .bool true)]) (H' := H)
  · unfold rtFr
    generalize (b ++ txR (l.take i)).length = n at *
    generalize l.map Va.pay = L at *
    (refine ⟨0, ?_⟩; simp (maxSteps := 2000000) -implicitDefEqProofs [-getElem?_pos, List.getElem?_cons_zero, List.getElem?_cons_succ, go_sem, eqV, plen, loadV, storeV, hLl, hiI])
  apply Tells.seq (fr' := rtFr b d l i o g ++ [(17, .bool true)]) (H' := H)
  · refine condT (by simp [evalO, getF, rtFr]) ?_
    exact ⟨0, rfl⟩
  apply Tells.or (P := fun fr H' => chkV v tyVS = 0 ∧ ∃ o' g' ob', fr = rtFm b d l i o' g' ∧ H'[o']? = some (some ob') ∧ Rw (.pb (b ++ txR (l.take (i + 1)))) g' ob')
  · apply Tells.blkOr
    · apply Tells.assoc
      apply Tells.seq (piece (rt_chk b d l i o g v H hn hv) _ rfl)
      by_cases h0 : chkV v tyVS = 0
      · have h0b : (chkV v tyVS != 0) = false := by rw [h0]; rfl
        rw [h0b]
        apply Tells.seq (fr' := rtFr b d l i o g ++ [(26, .bool false)]) (H' := H)
        · exact condF (by simp [evalO, getF, rtFr]) ⟨0, rfl⟩
        have hs : v.t.length ≤ 16777216 := by
          rcases ok_tx h0 with h | h
          · rw [h]; decide
          · exact h.2
        refine (piece (rt_val b d l i o g v ob H hn hv hb hT hs ho hw) _ rfl).mono ?_
        rintro q ⟨h1, h2⟩
        exact .inl ⟨h1, h0, h2⟩
      · have h0b : (chkV v tyVS != 0) = true := by simpa using h0
        rw [h0b]
        refine Tells.of (o := ⟨.ret, [(4, .sl H.length 0 0 0), (5, .int .i64 2)], H ++ [some nilB]⟩) ?_ (.inr ⟨by simp, .inr ⟨by simp, .inr ⟨rfl, rfl, ⟨v, hm, h0⟩, H.length, rfl, rfl, by simp⟩⟩⟩)
        apply Run.seq_out (hne := by simp)
        refine condT (by simp [evalO, getF, rtFr]) ⟨0, ?_⟩
        unfold rtFr
        generalize (b ++ txR (l.take i)).length = n at *
        generalize l.map Va.pay = L at *
        simp (maxSteps := 2000000) -implicitDefEqProofs [-getElem?_pos, List.getElem?_cons_zero, List.getElem?_cons_succ, go_sem, eqV, plen, loadV, storeV, assignV, emB]
    · rintro o (⟨h1, _⟩ | ⟨_, ⟨h2, _⟩ | ⟨h2, _⟩⟩)
      · rw [h1]; simp
      · rw [h2]; simp
      · rw [h2]; simp
  rintro fr H' ⟨h0, o', g', ob', rfl, ho', hw'⟩
  refine Tells.of (o := ⟨.normal, rtFr b d l (i + 1) o' g', H'⟩) ⟨0, ?_⟩ (.inl ⟨rfl, l.length - (i + 1), by omega, i + 1, o', g', ob', rfl, by omega, rfl, ho', hw', fun j q hj hq => ?_⟩)
  · unfold rtFr rtFm
    generalize (b ++ txR (l.take (i + 1))).length = n at *
    generalize l.map Va.pay = L at *
    simp (maxSteps := 2000000) -implicitDefEqProofs [-getElem?_pos, List.getElem?_cons_zero, List.getElem?_cons_succ, go_sem, eqV, plen, loadV, storeV, w1]
  · by_cases hji : j = i
    · subst hji; rw [hv] at hq; obtain rfl := Option.some.inj hq
      exact h0
    · exact hall j q (by omega) hq

set_option maxRecDepth 100000 in
set_option maxHeartbeats 4000000 in
theorem rtapp_code (hc : c = 0 → b = []) (hb : b.length ≤ 2000000) (hT : (txR l).length ≤ 1000000) : ∃ code, Try.f9.body = some code ∧
    Tells (Rets fun fr H => ∃ o g ob, getF fr 4 = .sl o 0 (txApp b l).1.length g ∧ getF fr 5 = .int .i64 (txApp b l).2 ∧ H[o]? = some (some ob) ∧ Rw (.pb (txApp b l).1) g ob) X (evT X) 9 0 code [(0, .ro c (.pb b) 1), (1, .ro d (.pr 12 (l.map Va.pay)) 2)] [] := by
  refine ⟨_, rfl, ?_⟩
  have hLl : (l.map Va.pay).length = l.length := List.length_map _
  obtain ⟨L, hLm⟩ : ∃ L, l.map Va.pay = L := ⟨_, rfl⟩
  rw [hLm] at hLl ⊢
  apply Tells.seq (fr' := [(0, .ro c (.pb b) 1), (1, .ro d (.pr 12 L) 2)]) (H' := [some nilB])
  · (refine ⟨0, ?_⟩; simp (maxSteps := 2000000) -implicitDefEqProofs [-getElem?_pos, List.getElem?_cons_zero, List.getElem?_cons_succ, go_sem, eqV, plen, loadV, storeV, assignV, emB])
  by_cases h5 : 4096 < l.length
  · rw [show txApp b l = ([], 3) from if_pos h5]
    refine Tells.of (o := ⟨.ret, [(4, .sl 1 0 0 0), (5, .int .i64 3)], [some nilB, some nilB]⟩) ?_ ⟨rfl, 1, 0, nilB, rfl, rfl, rfl, nilB_rw⟩
    apply Run.seq_out (hne := by simp)
    have h5i : (4096 : Int) < (l.length : Int) := by omega
    refine ⟨0, ?_⟩
    simp (maxSteps := 2000000) -implicitDefEqProofs [-getElem?_pos, List.getElem?_cons_zero, List.getElem?_cons_succ, go_sem, eqV, plen, loadV, storeV, assignV, emB, h5i, hLl]
  have hbad : ∀ p ∈ l, chkV p tyVS ≠ 0 → txApp b l = ([], 2) := by
    intro p hp hb
    unfold txApp
    rw [if_neg h5, if_pos (List.any_eq_true.2 ⟨p, hp, by simpa using hb⟩)]
  have h5i : ¬ (4096 : Int) < (l.length : Int) := by omega
  apply Tells.seq (fr' := [(0, .ro c (.pb b) 1), (1, .ro d (.pr 12 L) 2), (10, .bool false)]) (H' := [some nilB])
  · (refine ⟨0, ?_⟩; simp (maxSteps := 2000000) -implicitDefEqProofs [-getElem?_pos, List.getElem?_cons_zero, List.getElem?_cons_succ, go_sem, eqV, plen, loadV, storeV, assignV, emB, h5i, hLl])
  have hA := app_lit (H := [some nilB]) (src := .ro c (.pb b) 1) (.inl rfl) (by omega)
  have hb0 := fun H => bs0 H
  apply Tells.seq (fr' := [(1, .ro d (.pr 12 L) 2), (6, .sl 1 0 b.length 0)]) (H' := [some nilB, some ⟨.pb b, 0, .none, 1, true, false, 0⟩])
  · (refine ⟨0, ?_⟩; simp (maxSteps := 2000000) -implicitDefEqProofs [-getElem?_pos, List.getElem?_cons_zero, List.getElem?_cons_succ, go_sem, eqV, plen, loadV, storeV, hb0, hA, assignV])
  apply Tells.assoc
  have hbl : (b ++ txR (l.take 0)).length = b.length := by rw [List.take_zero]; simp [txR]
  apply Tells.seq (fr' := rtFr b d l 0 1 0) (H' := [some nilB, some ⟨.pb b, 0, .none, 1, true, false, 0⟩])
  · unfold rtFr
    rw [hbl, hLm]
    (refine ⟨0, ?_⟩; simp (maxSteps := 2000000) -implicitDefEqProofs [-getElem?_pos, List.getElem?_cons_zero, List.getElem?_cons_succ, go_sem, eqV, plen, loadV, storeV])
  apply Tells.or (P := fun fr H => (∀ p ∈ l, chkV p tyVS = 0) ∧ ∃ o g ob, fr = rtFr b d l l.length o g ++ [(17, .bool false)] ∧ H[o]? = some (some ob) ∧ Rw (.pb (b ++ txR l)) g ob)
  · refine (piece (rt_loop b d l [some nilB, some ⟨.pb b, 0, .none, 1, true, false, 0⟩] 1 _ (by omega) hb hT rfl ⟨rfl, rfl, rfl, rfl, rfl⟩) _ rfl).mono ?_
    rintro out (h | ⟨h1, h2, ⟨p, hp, hb⟩, o, q6, q7, q8⟩)
    · exact .inl h
    · have hbd := hbad p hp hb
      exact .inr ⟨h1, h2, o, 0, nilB, by rw [hbd]; exact q6, by rw [hbd]; exact q7, q8, by rw [hbd]; exact nilB_rw⟩
  rintro fr H ⟨hok, o, g, ob, rfl, ho, hw⟩
  have hany : ¬ (l.any fun v => decide (chkV v tyVS ≠ 0)) = true := by
    intro h
    obtain ⟨p, hp, hb⟩ := List.any_eq_true.1 h
    rw [hok p hp] at hb; simp at hb
  have hpa : txApp b l = (b ++ txR l, 0) := by
    unfold txApp
    rw [if_neg h5, if_neg hany]
  rw [hpa]
  refine Tells.of (o := ⟨.ret, [(4, .sl o 0 (b ++ txR l).length g), (5, .int .i64 0)], H⟩) ⟨0, ?_⟩ ⟨rfl, o, g, ob, rfl, rfl, ho, hw⟩
  unfold rtFr
  rw [List.take_length]
  generalize (b ++ txR l).length = n at *
  simp (maxSteps := 2000000) -implicitDefEqProofs [-getElem?_pos, List.getElem?_cons_zero, List.getElem?_cons_succ, go_sem, eqV, plen, loadV, storeV, assignV]

end

theorem rtapp_ev {H : AM.Heap} {a A : AV} {b : List UInt8} {l : List Va} (h : Byt H a b) (hA : RoV H A l) (hb : b.length ≤ 2000000) (hT : (txR l).length ≤ 1000000) :
    ∃ ob, Rw (.pb (txApp b l).1) 0 ob ∧ evT X 9 [a, A] H = some (.tup [.sl H.length 0 (txApp b l).1.length 0, .int .i64 (txApp b l).2], H ++ [some ob]) := by
  obtain ⟨d, pv, xv, hpv, hd, hxv⟩ := args_v (f := 9) (i := 1) rfl hA (args_nil 2)
  obtain ⟨c, p, xl, hp, hc, hx'⟩ := args_byt (C := X) (f := 9) (i := 0) rfl h hxv
  obtain ⟨code, hcode, hr⟩ := rtapp_code c b d l hc hb hT
  obtain ⟨ob, q1, q2⟩ := Ev1.newB (H := H) (n := (txApp b l).1.length) (l := (txApp b l).1) (rest := [.int .i64 (txApp b l).2]) (evT_below X) Try.func9 hcode hx' (by simp [idsL, ids, hp.ids, hpv.ids]) (by simp [gtag]) rfl rfl rfl (by
    obtain ⟨o, ⟨he, o1, g, ob, q1, q2, q3, q4⟩, hrun⟩ := hr
    exact ⟨o, ⟨he, o1, g, ob, by show some [getF o.fr 4, getF o.fr 5] = _; rw [q1, q2], q3, q4⟩, by rw [par9, coB hp, coV hpv, coerce_nil]; exact hrun⟩)
  exact ⟨ob, q1, evT_eq q2⟩

end Go.Proofs.Ytafdnpcamepbmaa

/- Walks: the law RowCalls. -/
namespace Go.Proofs.Ytafdnpcamepbmaa
open Go.AM
set_option linter.unusedSimpArgs false
set_option linter.unusedVariables false

section
variable (c : Nat) (b : List UInt8) (d : Nat) (l : List Va) (e : Nat) (ts : List Ty)

set_option maxRecDepth 100000 in
set_option maxHeartbeats 4000000 in
theorem calls_code (hc : c = 0 → b = []) (hd : d = 0 → l = []) (he : e = 0 → ts = []) (hok : ∀ p ∈ l, p.okR) (hl : ∀ p ∈ l, p.t.length ≤ 1048576) (ht : ∀ t ∈ ts, t.t < 256) : ∃ code, Try.f3.body = some code ∧
    Tells (Rets fun fr H => getF fr 6 = .bool true) X (evT X) 3 0 code [(0, .ro c (.pb b) 1), (1, .ro d (.pr 12 (l.map Va.pay)) 2), (2, .ro e (.pr 2 (ts.map Ty.pay)) 3)] [] := by
  refine ⟨_, rfl, ?_⟩
  have hL := fun H => lives_ev H
  have hro : ∀ H, Byt H (.ro c (.pb b) 1) b := fun H => Byt.ro (.inl rfl) hc
  have hV : ∀ H, RoV H (.ro d (.pr 12 (l.map Va.pay)) 2) l := fun H => RoRow.ro fun h => by rw [hd h]; rfl
  have hT : ∀ H, RoT H (.ro e (.pr 2 (ts.map Ty.pay)) 3) ts := fun H => RoRow.ro fun h => by rw [he h]; rfl
  have hS := fun H => small_ev (H := H) (hV H) (hT H) hl
  generalize hP : AV.pr 12 (l.map Va.pay) = P at *
  generalize hQ : AV.pr 2 (ts.map Ty.pay) = Q at *
  apply Tells.seq (fr' := [(0, .ro c (.pb b) 1), (1, .ro d P 2), (2, .ro e Q 3)]) (H' := [])
  · (refine ⟨0, ?_⟩; simp (maxSteps := 2000000) -implicitDefEqProofs [-getElem?_pos, List.getElem?_cons_zero, List.getElem?_cons_succ, go_sem, eqV, plen, loadV, storeV])
  apply Tells.seq (fr' := [(0, .ro c (.pb b) 1), (1, .ro d P 2), (2, .ro e Q 3), (12, .bool false)]) (H' := [])
  · (refine ⟨0, ?_⟩; simp (maxSteps := 2000000) -implicitDefEqProofs [-getElem?_pos, List.getElem?_cons_zero, List.getElem?_cons_succ, go_sem, eqV, plen, loadV, storeV, hL, unV])
  by_cases hb : (3000 : Int) < (b.length : Int)
  · refine Tells.of (o := ⟨.ret, [(6, .bool true)], []⟩) ⟨0, ?_⟩ ⟨rfl, rfl⟩
    simp (maxSteps := 2000000) -implicitDefEqProofs [-getElem?_pos, List.getElem?_cons_zero, List.getElem?_cons_succ, go_sem, eqV, plen, loadV, storeV, hb]
  cases hs : smR l ts with
  | false =>
    rw [hs] at hS
    refine Tells.of (o := ⟨.ret, [(6, .bool true)], []⟩) ⟨0, ?_⟩ ⟨rfl, rfl⟩
    simp (maxSteps := 2000000) -implicitDefEqProofs [-getElem?_pos, List.getElem?_cons_zero, List.getElem?_cons_succ, go_sem, eqV, plen, loadV, storeV, hb, hS, unV]
  | true =>
  rw [hs] at hS
  obtain ⟨s1, s2, s3, s4⟩ := sm_rest hs
  have hbl : b.length ≤ 3000 := by omega
  apply Tells.seq (fr' := [(0, .ro c (.pb b) 1), (1, .ro d P 2), (2, .ro e Q 3), (21, .bool false)]) (H' := [])
  · (refine ⟨0, ?_⟩; simp (maxSteps := 2000000) -implicitDefEqProofs [-getElem?_pos, List.getElem?_cons_zero, List.getElem?_cons_succ, go_sem, eqV, plen, loadV, storeV, hb, hS, unV])
  obtain ⟨obo, hO, hOw⟩ := own_ev (H := []) (hro _) (by omega)
  obtain ⟨ob1, hw1, hA1⟩ := tapp_ev (H := [some obo]) (a := .sl 0 0 b.length 0) (OwnB.byt rfl hO) (hV _) (by omega) hok (by omega)
  apply Tells.seq (fr' := [(0, .ro c (.pb b) 1), (1, .ro d P 2), (2, .ro e Q 3), (7, .sl 1 0 (txApp b l).1.length 0), (8, .int .i64 (txApp b l).2)]) (H' := [some obo, some ob1])
  · simp only [List.cons_append, List.nil_append, List.length_cons, List.length_nil] at hOw hA1
    generalize txApp b l = r at *
    (refine ⟨0, ?_⟩; simp (maxSteps := 2000000) -implicitDefEqProofs [-getElem?_pos, List.getElem?_cons_zero, List.getElem?_cons_succ, go_sem, eqV, plen, loadV, storeV, hOw, hA1, assignV])
  obtain ⟨ob2, hw2, hA2⟩ := rtapp_ev (H := [some obo, some ob1]) (a := .ro c (.pb b) 1) (hro _) (hV _) (by omega) (by omega)
  apply Tells.seq (fr' := [(0, .ro c (.pb b) 1), (1, .ro d P 2), (2, .ro e Q 3), (7, .sl 1 0 (txApp b l).1.length 0), (8, .int .i64 (txApp b l).2), (9, .sl 2 0 (txApp b l).1.length 0), (10, .int .i64 (txApp b l).2)]) (H' := [some obo, some ob1, some ob2])
  · simp only [List.cons_append, List.nil_append, List.length_cons, List.length_nil] at hA2
    generalize txApp b l = r at *
    (refine ⟨0, ?_⟩; simp (maxSteps := 2000000) -implicitDefEqProofs [-getElem?_pos, List.getElem?_cons_zero, List.getElem?_cons_succ, go_sem, eqV, plen, loadV, storeV, hA2, assignV])
  have hSB := sameB_ev (H := [some obo, some ob1, some ob2]) (Byt.whole (o := 1) rfl hw1) (Byt.whole (o := 2) rfl hw2)
  rw [beq_self_eq_true] at hSB
  apply Tells.seq (fr' := [(0, .ro c (.pb b) 1), (1, .ro d P 2), (2, .ro e Q 3), (43, .bool false)]) (H' := [some obo, some ob1, some ob2])
  · generalize txApp b l = r at *
    (refine ⟨0, ?_⟩; simp (maxSteps := 2000000) -implicitDefEqProofs [-getElem?_pos, List.getElem?_cons_zero, List.getElem?_cons_succ, go_sem, eqV, plen, loadV, storeV, hSB])
  obtain ⟨obo2, hO2, hOw2⟩ := own_ev (H := [some obo, some ob1, some ob2]) (hro _) (by omega)
  obtain ⟨ob3, hw3, hA3⟩ := bapp_ev (H := [some obo, some ob1, some ob2, some obo2]) (a := .sl 3 0 b.length 0) (OwnB.byt rfl hO2) (hV _) (hT _) (by omega) hok ht (by omega) (by omega)
  apply Tells.seq (fr' := [(0, .ro c (.pb b) 1), (1, .ro d P 2), (2, .ro e Q 3), (7, .sl 4 0 (bnApp b l ts).1.length 0), (8, .int .i64 (bnApp b l ts).2)]) (H' := [some obo, some ob1, some ob2, some obo2, some ob3])
  · simp only [List.cons_append, List.nil_append, List.length_cons, List.length_nil] at hOw2 hA3
    generalize bnApp b l ts = r at *
    (refine ⟨0, ?_⟩; simp (maxSteps := 2000000) -implicitDefEqProofs [-getElem?_pos, List.getElem?_cons_zero, List.getElem?_cons_succ, go_sem, eqV, plen, loadV, storeV, hOw2, hA3, assignV])
  obtain ⟨ob4, hw4, hA4⟩ := rbapp_ev (H := [some obo, some ob1, some ob2, some obo2, some ob3]) (a := .ro c (.pb b) 1) (hro _) (hV _) (hT _) (by omega) hok ht (by omega) (by omega)
  apply Tells.seq (fr' := [(7, .sl 4 0 (bnApp b l ts).1.length 0), (8, .int .i64 (bnApp b l ts).2), (9, .sl 5 0 (bnApp b l ts).1.length 0), (10, .int .i64 (bnApp b l ts).2)]) (H' := [some obo, some ob1, some ob2, some obo2, some ob3, some ob4])
  · simp only [List.cons_append, List.nil_append, List.length_cons, List.length_nil] at hA4
    generalize bnApp b l ts = r at *
    (refine ⟨0, ?_⟩; simp (maxSteps := 2000000) -implicitDefEqProofs [-getElem?_pos, List.getElem?_cons_zero, List.getElem?_cons_succ, go_sem, eqV, plen, loadV, storeV, hA4, assignV])
  have hSB2 := sameB_ev (H := [some obo, some ob1, some ob2, some obo2, some ob3, some ob4]) (Byt.whole (o := 4) rfl hw3) (Byt.whole (o := 5) rfl hw4)
  rw [beq_self_eq_true] at hSB2
  refine Tells.of (o := ⟨.ret, [(6, .bool true)], [some obo, some ob1, some ob2, some obo2, some ob3, some ob4]⟩) ⟨0, ?_⟩ ⟨rfl, rfl⟩
  generalize bnApp b l ts = r at *
  simp (maxSteps := 2000000) -implicitDefEqProofs [-getElem?_pos, List.getElem?_cons_zero, List.getElem?_cons_succ, go_sem, eqV, plen, loadV, storeV, hSB2]

end

end Go.Proofs.Ytafdnpcamepbmaa

/- Arguments of laws: values, types, parameters; rows of them. -/
namespace Go.Proofs.Ytafdnpcamepbmaa
open Go.AM
set_option linter.unusedVariables false

/-- a value as it may come -/
def Va.okA (v : Va) : Prop := v.b < 18446744073709551616 ∧ -9223372036854775808 ≤ v.i ∧ v.i < 9223372036854775808

theorem row_pm {r : List AV} {cs : List Value} (h : Cells [.i .u8, .b, .b, .i .i64, .i .i64, .i .u64, .s, .b, .i .i64, .i .i64, .i .i64, .i .i64, .i .i64, .i .i64, .i .i64] r cs) : ∃ p : Pm, AV.pc r = p.pay ∧ p.ok ∧ AV.str p.v.t ∈ r := by
  rcases h with _ | ⟨h0, h⟩
  rcases h with _ | ⟨h1, h⟩
  rcases h with _ | ⟨h2, h⟩
  rcases h with _ | ⟨h3, h⟩
  rcases h with _ | ⟨h4, h⟩
  rcases h with _ | ⟨h5, h⟩
  rcases h with _ | ⟨h6, h⟩
  rcases h with _ | ⟨h7, h⟩
  rcases h with _ | ⟨h8, h⟩
  rcases h with _ | ⟨h9, h⟩
  rcases h with _ | ⟨h10, h⟩
  rcases h with _ | ⟨h11, h⟩
  rcases h with _ | ⟨h12, h⟩
  rcases h with _ | ⟨h13, h⟩
  rcases h with _ | ⟨h14, h⟩
  cases h
  obtain ⟨x0, rfl, _, w0⟩ := h0
  obtain ⟨x0, rfl, b0⟩ := AM.nat_wf rfl w0
  obtain ⟨x1, rfl, _⟩ := h1
  obtain ⟨x2, rfl, _⟩ := h2
  obtain ⟨x3, rfl, _, w3⟩ := h3
  have w3 := AM.i64_wf w3
  obtain ⟨x4, rfl, _, w4⟩ := h4
  have w4 := AM.i64_wf w4
  obtain ⟨x5, rfl, _, w5⟩ := h5
  obtain ⟨x5, rfl, b5⟩ := AM.nat_wf rfl w5
  obtain ⟨x6, rfl, _, _⟩ := h6
  obtain ⟨x7, rfl, _⟩ := h7
  obtain ⟨x8, rfl, _, w8⟩ := h8
  have w8 := AM.i64_wf w8
  obtain ⟨x9, rfl, _, w9⟩ := h9
  have w9 := AM.i64_wf w9
  obtain ⟨x10, rfl, _, w10⟩ := h10
  have w10 := AM.i64_wf w10
  obtain ⟨x11, rfl, _, w11⟩ := h11
  have w11 := AM.i64_wf w11
  obtain ⟨x12, rfl, _, w12⟩ := h12
  have w12 := AM.i64_wf w12
  obtain ⟨x13, rfl, _, w13⟩ := h13
  have w13 := AM.i64_wf w13
  obtain ⟨x14, rfl, _, w14⟩ := h14
  have w14 := AM.i64_wf w14
  exact ⟨⟨⟨x0, x1⟩, x2, ⟨x3, x4, x5, x6, ⟨x7, x8, x9, x10, x11, x12, x13, x14⟩⟩⟩, rfl, ⟨b0, b5, w4.1, Int.lt_of_le_of_lt w4.2 (by decide)⟩, by simp⟩

theorem row_va {r : List AV} {cs : List Value} (h : Cells [.i .i64, .i .i64, .i .u64, .s, .b, .i .i64, .i .i64, .i .i64, .i .i64, .i .i64, .i .i64, .i .i64] r cs) : ∃ p : Va, AV.pc r = p.pay ∧ p.okA ∧ AV.str p.t ∈ r := by
  rcases h with _ | ⟨h0, h⟩
  rcases h with _ | ⟨h1, h⟩
  rcases h with _ | ⟨h2, h⟩
  rcases h with _ | ⟨h3, h⟩
  rcases h with _ | ⟨h4, h⟩
  rcases h with _ | ⟨h5, h⟩
  rcases h with _ | ⟨h6, h⟩
  rcases h with _ | ⟨h7, h⟩
  rcases h with _ | ⟨h8, h⟩
  rcases h with _ | ⟨h9, h⟩
  rcases h with _ | ⟨h10, h⟩
  rcases h with _ | ⟨h11, h⟩
  cases h
  obtain ⟨x0, rfl, _, w0⟩ := h0
  have w0 := AM.i64_wf w0
  obtain ⟨x1, rfl, _, w1⟩ := h1
  have w1 := AM.i64_wf w1
  obtain ⟨x2, rfl, _, w2⟩ := h2
  obtain ⟨x2, rfl, b2⟩ := AM.nat_wf rfl w2
  obtain ⟨x3, rfl, _, _⟩ := h3
  obtain ⟨x4, rfl, _⟩ := h4
  obtain ⟨x5, rfl, _, w5⟩ := h5
  have w5 := AM.i64_wf w5
  obtain ⟨x6, rfl, _, w6⟩ := h6
  have w6 := AM.i64_wf w6
  obtain ⟨x7, rfl, _, w7⟩ := h7
  have w7 := AM.i64_wf w7
  obtain ⟨x8, rfl, _, w8⟩ := h8
  have w8 := AM.i64_wf w8
  obtain ⟨x9, rfl, _, w9⟩ := h9
  have w9 := AM.i64_wf w9
  obtain ⟨x10, rfl, _, w10⟩ := h10
  have w10 := AM.i64_wf w10
  obtain ⟨x11, rfl, _, w11⟩ := h11
  have w11 := AM.i64_wf w11
  exact ⟨⟨x0, x1, x2, x3, ⟨x4, x5, x6, x7, x8, x9, x10, x11⟩⟩, rfl, ⟨b2, w1.1, Int.lt_of_le_of_lt w1.2 (by decide)⟩, by simp⟩

theorem lv_va : leaves Try.prog 6 44 = some [.i .i64, .i .i64, .i .u64, .s, .b, .i .i64, .i .i64, .i .i64, .i .i64, .i .i64, .i .i64, .i .i64] := by kernel_rfl

/-- a row of them -/
theorem arg_vas {H : Type} {enc : TypeId × Value → H} {W : World} {base : Nat} {v : Value} {d : DataW H} {ps : List MemPlace} (hval : Value.okWide Try.prog W .any base 23 v) (hd : DataW.Trod enc Try.prog W 0 (fun _ => true) true 23 v d ps) :
    ∃ (c : Nat) (l : List Va), (∀ p ∈ l, p.okA ∧ AM.StrIn d p.t) ∧ (c = 0 → l = []) ∧ l.length ≤ maxLen ∧ AM.VRel (AM.start W) (AM.T0 W.heap.size) (.ro c (.pr 12 (l.map Va.pay)) 1) v := by
  obtain ⟨c, rows, h1, h2, h3, h4⟩ := AM.arg_rows (show Try.prog.underlying 23 = some (.slice 44) by kernel_rfl) lv_va (by kernel_rfl) (by simp) hval hd
  obtain ⟨l, q1, q2, q3⟩ := AM.rows_as AV.pc Va.pay (Q := fun p => p.okA ∧ AM.StrIn d p.t) (rows := rows) (fun r hr => by
    obtain ⟨⟨cs, h⟩, hs⟩ := h1 r hr
    obtain ⟨p, e, h5⟩ := row_va h
    exact ⟨p, e, h5.1, hs _ h5.2⟩)
  refine ⟨c, l, q3, fun h => ?_, by rw [q2]; exact h3, ?_⟩
  · have := h2 h
    subst this
    exact List.eq_nil_of_length_eq_zero q2
  · rw [← q1]
    exact h4

theorem row_ty {r : List AV} {cs : List Value} (h : Cells [.i .u8, .b] r cs) : ∃ p : Ty, AV.pc r = p.pay ∧ p.t < 256 := by
  rcases h with _ | ⟨h0, h⟩
  rcases h with _ | ⟨h1, h⟩
  cases h
  obtain ⟨x0, rfl, _, w0⟩ := h0
  obtain ⟨x0, rfl, b0⟩ := AM.nat_wf rfl w0
  obtain ⟨x1, rfl, _⟩ := h1
  exact ⟨⟨x0, x1⟩, rfl, b0⟩

theorem lv_ty : leaves Try.prog 6 46 = some [.i .u8, .b] := by kernel_rfl

/-- a row of them -/
theorem arg_tys {H : Type} {enc : TypeId × Value → H} {W : World} {base : Nat} {v : Value} {d : DataW H} {ps : List MemPlace} (hval : Value.okWide Try.prog W .any base 24 v) (hd : DataW.Trod enc Try.prog W 0 (fun _ => true) true 24 v d ps) :
    ∃ (c : Nat) (l : List Ty), (∀ p ∈ l, p.t < 256) ∧ (c = 0 → l = []) ∧ l.length ≤ maxLen ∧ AM.VRel (AM.start W) (AM.T0 W.heap.size) (.ro c (.pr 2 (l.map Ty.pay)) 1) v := by
  obtain ⟨c, rows, h1, h2, h3, h4⟩ := AM.arg_rows (show Try.prog.underlying 24 = some (.slice 46) by kernel_rfl) lv_ty (by kernel_rfl) (by simp) hval hd
  obtain ⟨l, q1, q2, q3⟩ := AM.rows_as AV.pc Ty.pay (Q := fun p => p.t < 256) (rows := rows) (fun r hr => by
    obtain ⟨⟨cs, h⟩, hs⟩ := h1 r hr
    obtain ⟨p, e, h5⟩ := row_ty h
    exact ⟨p, e, h5⟩)
  refine ⟨c, l, q3, fun h => ?_, by rw [q2]; exact h3, ?_⟩
  · have := h2 h
    subst this
    exact List.eq_nil_of_length_eq_zero q2
  · rw [← q1]
    exact h4

end Go.Proofs.Ytafdnpcamepbmaa
