/- TD to VG: texts of this claim, one behind the other; what each shows stands at its head. -/
import Derived.Test.YtafdnpcamepbmaaDoorAm3
import Derived.Test.YtafdnpcamepbmaaDoorMg6
/- Walks: row.Turned: its loop. -/
namespace Go.Proofs.YtafdnpcamepbmaaDoor
open Go.AM
set_option linter.unusedSimpArgs false
set_option linter.unusedVariables false

def tnQ (x : List UInt8 × Int) (fr : AM.Frame) (H : AM.Heap) : Prop := ∃ o g ob, getF fr 4 = .sl o 0 x.1.length g ∧ getF fr 5 = .int .i64 x.2 ∧ H[o]? = some (some ob) ∧ Rw (.pb x.1) g ob

section
variable (e : Nat) (ts : List Ty) (l : List Va)

set_option maxRecDepth 100000 in
set_option maxHeartbeats 4000000 in
theorem tn_round (i : Nat) (v : Va) (t : Ty) (H : AM.Heap) (hl : l.length = ts.length) (hv : l[i]? = some v) (ht : ts[i]? = some t) (hok : v.okR) (h256 : t.t < 256) (hH : tnHp (trZ l ts i) H) :
    ∃ code, ((Tryd.f6.body).bind (codeAt [1, 1, 1, 0, 1, 0, 0, 1, 1, 0])) = some code ∧
      Tells (Or2 (fun fr H' => bad45 t = false ∧ (fr = tnFr e ts l.length i ∨ ∃ k, fr = tnFm e ts l.length i k [(41, .bool false)]) ∧ tnHp (trZ l ts (i + 1)) H') (fun out => out.ex = .ret ∧ bad45 t = true ∧ tnQ ([], 2) out.fr out.H))
       X (evT X) 6 0 code (tnFr e ts l.length i ++ [(24, .bool true)]) H := by
  refine ⟨_, rfl, ?_⟩
  refine Tells.blkOr ?_ (by rintro o ⟨h, _⟩; rw [h]; simp)
  apply Tells.seq (piece (P := fun cd => Run X (evT X) _ 0 cd _ _ _) (tn6 e ts l.length i t H ht) _ rfl)
  have hnew : (H ++ [some (tyO t)])[H.length]? = some (some (tyO t)) := by simp
  have hH2 := hH.push [some (tyO t)]
  generalize H.length = k at *
  generalize H ++ [some (tyO t)] = H2 at *
  have h7 := tn7 e ts l.length i k t H2 hnew
  cases hb : bad45 t with
  | true =>
    rw [hb] at h7
    refine Tells.of (o := ⟨.ret, [(4, .sl H2.length 0 0 0), (5, .int .i64 2)], H2 ++ [some nilB]⟩) ?_ (.inr ⟨by simp, rfl, rfl, H2.length, 0, nilB, rfl, rfl, by simp, nilB_rw⟩)
    apply Run.seq_out (hne := by simp)
    apply Run.seq (piece (P := fun cd => Run X (evT X) _ 0 cd _ _ _) h7 _ rfl)
    refine condT (by simp [evalO, getF, tnFm]) ?_
    refine ⟨0, ?_⟩
    unfold tnFm tyA
    generalize ts.map Ty.pay = T at *
    simp (maxSteps := 2000000) -implicitDefEqProofs [-getElem?_pos, List.getElem?_cons_zero, List.getElem?_cons_succ, go_sem, eqV, plen, loadV, storeV, assignV, emB]
  | false =>
  rw [hb] at h7
  apply Tells.seq (fr' := tnFm e ts l.length i k [(35, .bool false)]) (H' := H2)
  · apply Run.seq (piece (P := fun cd => Run X (evT X) _ 0 cd _ _ _) h7 _ rfl)
    exact condF (by simp [evalO, getF, tnFm]) ⟨0, rfl⟩
  have hz := trZ_at hl hv
  have hzl := trZ_len hl i
  have h9 := tn9 e ts (trZ l ts i) i k v H2 hz hH2
  rw [hzl] at h9
  apply Tells.seq (piece (P := fun cd => Run X (evT X) _ 0 cd _ _ _) h9 _ rfl)
  by_cases hk : v.k = 0
  · rw [decide_eq_false (by simpa using hk)]
    refine Tells.of (o := ⟨.normal, tnFm e ts l.length i k [(41, .bool false)], H2⟩) ?_ (.inl ⟨rfl, rfl, .inr ⟨k, rfl⟩, by rw [trZ_same hl hv ht hk]; exact hH2⟩)
    refine condF (by simp [evalO, getF, tnFm]) ?_
    exact ⟨0, rfl⟩
  · rw [decide_eq_true (by simpa using hk)]
    have h10 := tn10 e ts (trZ l ts i) i k v t H2 hz hok h256 hnew hH2
    obtain ⟨H3, hH3, h11⟩ := tn11 e ts (trZ l ts i) i v (vtX v t).1 H2 hz hH2
    rw [hzl] at h10 h11
    rw [show ({ k := 7, t := (vtX v t).1 } : Va) = trnV v t by unfold trnV; rw [if_neg hk], trZ_set hl hv ht] at hH3
    refine Tells.of (o := ⟨.normal, tnFr e ts l.length i, H3⟩) ?_ (.inl ⟨rfl, rfl, .inl rfl, hH3⟩)
    refine condT (by simp [evalO, getF, tnFm]) ?_
    exact Run.seq (piece (P := fun cd => Run X (evT X) _ 0 cd _ _ _) h10 _ rfl) (piece (P := fun cd => Run X (evT X) _ 0 cd _ _ _) h11 _ rfl)

set_option maxRecDepth 100000 in
set_option maxHeartbeats 4000000 in
theorem tn_loop (H : AM.Heap) (hl : l.length = ts.length) (hn : ts.length ≤ 4096) (hok : ∀ v ∈ l, v.okR) (h256 : ∀ t ∈ ts, t.t < 256) (hH : tnHp l H) :
    ∃ code, ((Tryd.f6.body).bind (codeAt [1, 1, 1, 0, 1])) = some code ∧
      Tells (Or2 (fun fr H' => ts.any bad45 = false ∧ fr = tnFr e ts l.length ts.length ++ [(24, .bool false)] ∧ tnHp (List.zipWith trnV l ts) H') (fun out => out.ex = .ret ∧ ts.any bad45 = true ∧ tnQ ([], 2) out.fr out.H))
       X (evT X) 6 0 code (tnFr e ts l.length 0) H := by
  refine ⟨_, rfl, ?_⟩
  apply Tells.blockOr
  refine Tells.loopP (fun k fr H => ∃ i, k = ts.length - i ∧ i ≤ ts.length ∧ fr = tnFr e ts l.length i ∧ (∀ (j : Nat) t, j < i → ts[j]? = some t → bad45 t = false) ∧ tnHp (trZ l ts i) H) ?_ (k := ts.length) ⟨0, rfl, by omega, rfl, by intro j t h; omega, by rw [trZ_zero]; exact hH⟩
  rintro k fr H ⟨i, rfl, hi, rfl, hall, hH⟩
  by_cases hin : i = ts.length
  · subst hin
    refine Tells.of (o := ⟨.exit 0, tnFr e ts l.length ts.length ++ [(24, .bool false)], H⟩) ⟨0, ?_⟩ (.inr ⟨by simp, .inl ⟨rfl, ?_, rfl, by rw [← trZ_all hl, hl]; exact hH⟩⟩)
    · unfold tnFr tyA
      generalize ts.map Ty.pay = T at *
      simp (maxSteps := 2000000) -implicitDefEqProofs [-getElem?_pos, List.getElem?_cons_zero, List.getElem?_cons_succ, go_sem, eqV, plen, loadV, storeV]
    · rw [List.any_eq_false]
      intro t ht
      obtain ⟨j, hj, rfl⟩ := List.getElem_of_mem ht
      rw [hall j _ hj (List.getElem?_eq_getElem hj)]; simp
  have hiI : (i : Int) < (ts.length : Int) := by omega
  obtain ⟨t, ht⟩ : ∃ t, ts[i]? = some t := ⟨_, List.getElem?_eq_getElem (show i < ts.length by omega)⟩
  obtain ⟨v, hv⟩ : ∃ v, l[i]? = some v := ⟨_, List.getElem?_eq_getElem (show i < l.length by omega)⟩
  apply Tells.seq (fr' := tnFr e ts l.length i ++ [(24, .bool true)]) (H' := H)
  · unfold tnFr tyA
    generalize ts.map Ty.pay = T at *
    (refine ⟨0, ?_⟩; simp (maxSteps := 2000000) -implicitDefEqProofs [-getElem?_pos, List.getElem?_cons_zero, List.getElem?_cons_succ, go_sem, eqV, plen, loadV, storeV, hiI])
  apply Tells.seq (fr' := tnFr e ts l.length i ++ [(24, .bool true)]) (H' := H)
  · refine condT (by simp [evalO, getF, tnFr]) ?_
    exact ⟨0, rfl⟩
  apply Tells.or (P := fun fr H' => bad45 t = false ∧ (fr = tnFr e ts l.length i ∨ ∃ k, fr = tnFm e ts l.length i k [(41, .bool false)]) ∧ tnHp (trZ l ts (i + 1)) H')
  · refine (piece (tn_round e ts l i v t H hl hv ht (hok v (List.mem_of_getElem? hv)) (h256 t (List.mem_of_getElem? ht)) hH) _ rfl).mono ?_
    rintro o (h | ⟨h1, h2, h3, h4⟩)
    · exact .inl h
    · exact .inr ⟨h1, .inr ⟨h1, .inr ⟨h2, h2, List.any_eq_true.2 ⟨t, List.mem_of_getElem? ht, h3⟩, h4⟩⟩⟩
  rintro fr H' ⟨hb, hfr, h3⟩
  have w1 : IntKind.i64.wrap ((i : Int) + 1) = ((i + 1 : Nat) : Int) := by rw [wrap_i64 (by omega) (by omega)]; omega
  refine Tells.of (o := ⟨.normal, tnFr e ts l.length (i + 1), H'⟩) ⟨0, ?_⟩ (.inl ⟨rfl, ts.length - (i + 1), by omega, i + 1, rfl, by omega, rfl, ?_, h3⟩)
  · rcases hfr with rfl | ⟨k, rfl⟩
    · unfold tnFr tyA
      generalize ts.map Ty.pay = T at *
      simp (maxSteps := 2000000) -implicitDefEqProofs [-getElem?_pos, List.getElem?_cons_zero, List.getElem?_cons_succ, go_sem, eqV, plen, loadV, storeV, w1]
    · unfold tnFm tnFr tyA
      generalize ts.map Ty.pay = T at *
      simp (maxSteps := 2000000) -implicitDefEqProofs [-getElem?_pos, List.getElem?_cons_zero, List.getElem?_cons_succ, go_sem, eqV, plen, loadV, storeV, w1]
  · intro j t' hj ht'
    by_cases hji : j = i
    · subst hji; rw [ht] at ht'; cases ht'; exact hb
    · exact hall j t' (by omega) ht'

end

end Go.Proofs.YtafdnpcamepbmaaDoor

/- Walks: row.Turned: whole; its event. -/
namespace Go.Proofs.YtafdnpcamepbmaaDoor
open Go.AM
set_option linter.unusedSimpArgs false
set_option linter.unusedVariables false

theorem roV_whole {H : AM.Heap} {o : Nat} {l : List Va} {ob : AM.Obj} (ho : H[o]? = some (some ob)) (hw : Rw (.pr 12 (l.map Va.pay)) 0 ob) : RoV H (.sl o 0 l.length 0) l := by
  have := RoRow.whole ho hw
  rwa [List.length_map] at this

section
variable (c e : Nat) (ts : List Ty)

set_option maxRecDepth 100000 in
set_option maxHeartbeats 4000000 in
theorem trn_code (b : List UInt8) (hc : c = 0 → b = []) (he : e = 0 → ts = []) (hb : b.length ≤ 90000000) (h256 : ∀ t ∈ ts, t.t < 256) (hok : ∀ v ∈ (rdBin b ts).1, v.okR) (hn : ts.length ≤ 4096) (hT : (txR (List.zipWith trnV (rdBin b ts).1 ts)).length ≤ 1000000) :
    ∃ code, Tryd.f6.body = some code ∧
    Tells (Rets (tnQ (trdB b ts))) X (evT X) 6 0 code [(0, .ro c (.pb b) 1), (1, tyA e ts)] [] := by
  refine ⟨_, rfl, ?_⟩
  have hTl : (ts.map Ty.pay).length = ts.length := List.length_map _
  apply Tells.seq (fr' := [(0, .ro c (.pb b) 1), (1, tyA e ts)]) (H' := [some nilB])
  · unfold tyA
    generalize ts.map Ty.pay = T at *
    (refine ⟨0, ?_⟩; simp (maxSteps := 2000000) -implicitDefEqProofs [-getElem?_pos, List.getElem?_cons_zero, List.getElem?_cons_succ, go_sem, eqV, plen, loadV, storeV, assignV, emB])
  have hA : RoT [some nilB] (tyA e ts) ts := RoRow.ro fun h => by rw [he h]; rfl
  obtain ⟨ob, hw, hB⟩ := brd_ev (H := [some nilB]) (a := .ro c (.pb b) 1) (A := tyA e ts) (b := b) (ts := ts) (Byt.ro (.inl rfl) hc) hA hb h256
  have hlen := rdBin_len (b := b) (ts := ts)
  have hX : trdB b ts = if (rdBin b ts).2 ≠ 0 then ([], (rdBin b ts).2) else if ts.any bad45 then ([], 2) else txApp [] (List.zipWith trnV (rdBin b ts).1 ts) := rfl
  obtain ⟨l, er, hr⟩ : ∃ l er, rdBin b ts = (l, er) := ⟨_, _, rfl⟩
  rw [hr] at hX hB hw hok hT hlen
  rw [hX]
  clear hX
  simp only at hok hT hw hlen ⊢
  simp only [List.length_cons, List.length_nil, List.cons_append, List.nil_append] at hB
  apply Tells.seq (fr' := [(1, tyA e ts), (6, .sl 1 0 l.length 0), (7, .int .i64 er)]) (H' := [some nilB, some ob])
  · generalize tyA e ts = A at *
    (refine ⟨0, ?_⟩; simp (maxSteps := 2000000) -implicitDefEqProofs [-getElem?_pos, List.getElem?_cons_zero, List.getElem?_cons_succ, go_sem, eqV, plen, loadV, storeV, hB, assignV])
  by_cases he0 : er ≠ 0
  · rw [if_pos he0]
    have heb : (er != 0) = true := by simpa using he0
    refine Tells.of (o := ⟨.ret, [(4, .sl 2 0 0 0), (5, .int .i64 er)], [some nilB, some ob, some nilB]⟩) ?_ ⟨rfl, 2, 0, nilB, rfl, rfl, rfl, nilB_rw⟩
    apply Run.seq_out (hne := by simp)
    generalize tyA e ts = A at *
    refine ⟨0, ?_⟩
    simp (maxSteps := 2000000) -implicitDefEqProofs [-getElem?_pos, List.getElem?_cons_zero, List.getElem?_cons_succ, go_sem, eqV, plen, loadV, storeV, heb, assignV, emB]
  rw [if_neg he0]
  have he1 : er = 0 := by simpa using he0
  subst he1
  have hl : l.length = ts.length := hlen rfl
  apply Tells.seq (fr' := [(1, tyA e ts), (6, .sl 1 0 l.length 0), (7, .int .i64 0), (19, .bool false)]) (H' := [some nilB, some ob])
  · apply Run.seq (fr' := [(1, tyA e ts), (6, .sl 1 0 l.length 0), (7, .int .i64 0), (19, .bool false)]) (H' := [some nilB, some ob])
    · generalize tyA e ts = A at *
      (refine ⟨0, ?_⟩; simp (maxSteps := 2000000) -implicitDefEqProofs [-getElem?_pos, List.getElem?_cons_zero, List.getElem?_cons_succ, go_sem, eqV, plen, loadV, storeV])
    · exact condF (by simp [evalO, getF]) ⟨0, rfl⟩
  apply Tells.assoc
  apply Tells.seq (fr' := tnFr e ts l.length 0) (H' := [some nilB, some ob])
  · unfold tnFr tyA
    generalize ts.map Ty.pay = T at *
    (refine ⟨0, ?_⟩; simp (maxSteps := 2000000) -implicitDefEqProofs [-getElem?_pos, List.getElem?_cons_zero, List.getElem?_cons_succ, go_sem, eqV, plen, loadV, storeV, hTl])
  apply Tells.or (P := fun fr H' => ts.any bad45 = false ∧ fr = tnFr e ts l.length ts.length ++ [(24, .bool false)] ∧ tnHp (List.zipWith trnV l ts) H')
  · refine (piece (tn_loop e ts l [some nilB, some ob] hl hn hok h256 ⟨ob, rfl, hw⟩) _ rfl).mono ?_
    rintro out (h | ⟨q1, q2, q3, q4⟩)
    · exact .inl h
    · refine .inr ⟨q1, q2, ?_⟩
      rw [if_pos q3]
      exact q4
  rintro fr H ⟨hnb, rfl, ob2, h1, hw2⟩
  rw [if_neg (by rw [hnb]; simp)]
  have hzl : (List.zipWith trnV l ts).length = l.length := by rw [List.length_zipWith]; omega
  have hzo := trn_all (ts := ts) hok
  have hRV := roV_whole h1 hw2
  rw [hzl] at hRV
  generalize List.zipWith trnV l ts = z at *
  obtain ⟨ob3, hw3, hA3⟩ := tapp_ev (H := H) (a := .ro 0 .pn 0) (A := .sl 1 0 l.length 0) (b := []) Byt.nil hRV (by simp) hzo hT
  refine Tells.of (o := ⟨.ret, [(4, .sl H.length 0 (txApp [] z).1.length 0), (5, .int .i64 (txApp [] z).2)], H ++ [some ob3]⟩) ⟨0, ?_⟩ ⟨rfl, H.length, 0, ob3, rfl, rfl, by simp, hw3⟩
  unfold tnFr
  generalize tyA e ts = A at *
  generalize (txApp [] z) = x at *
  generalize l.length = n at *
  simp (maxSteps := 2000000) -implicitDefEqProofs [-getElem?_pos, List.getElem?_cons_zero, List.getElem?_cons_succ, go_sem, eqV, plen, loadV, storeV, hA3, assignV]

end

theorem trn_ev {H : AM.Heap} {a A : AV} {b : List UInt8} {ts : List Ty} (h : Byt H a b) (hA : RoT H A ts) (hb : b.length ≤ 90000000) (h256 : ∀ t ∈ ts, t.t < 256) (hok : ∀ v ∈ (rdBin b ts).1, v.okR) (hn : ts.length ≤ 4096) (hT : (txR (List.zipWith trnV (rdBin b ts).1 ts)).length ≤ 1000000) :
    ∃ ob, Rw (.pb (trdB b ts).1) 0 ob ∧ evT X 6 [a, A] H = some (.tup [.sl H.length 0 (trdB b ts).1.length 0, .int .i64 (trdB b ts).2], H ++ [some ob]) := by
  obtain ⟨e, pt, xt, hpt, he, hxt⟩ := args_t (f := 6) (i := 1) rfl hA (args_nil 2)
  obtain ⟨c, p, xl, hp, hc, hx'⟩ := args_byt (C := X) (f := 6) (i := 0) rfl h hxt
  obtain ⟨code, hcode, hr⟩ := trn_code c e ts b hc he hb h256 hok hn hT
  obtain ⟨ob, q1, q2⟩ := Ev1.newB (H := H) (n := (trdB b ts).1.length) (l := (trdB b ts).1) (rest := [.int .i64 (trdB b ts).2]) (evT_below X) Tryd.func6 hcode hx' (by simp [idsL, ids, hp.ids, hpt.ids]) (by simp [gtag]) rfl rfl rfl (by
    obtain ⟨o, ⟨he, o1, g, ob, q1, q2, q3, q4⟩, hrun⟩ := hr
    exact ⟨o, ⟨he, o1, g, ob, by show some [getF o.fr 4, getF o.fr 5] = _; rw [q1, q2], q3, q4⟩, by rw [par6, coB hp, coT hpt, coerce_nil]; exact hrun⟩)
  exact ⟨ob, q1, evT_eq q2⟩

end Go.Proofs.YtafdnpcamepbmaaDoor

/- Walks: a binary row written. -/
namespace Go.Proofs.YtafdnpcamepbmaaDoor
open Go.AM
set_option linter.unusedSimpArgs false
set_option linter.unusedVariables false

section
variable (c : Nat) (b : List UInt8) (d : Nat) (l : List Va) (e : Nat) (ts : List Ty) (K m8 : Nat)

/-- a round's frame -/
def bnFr (i o : Nat) : AM.Frame := [(2, .ro e (.pr 2 (ts.map Ty.pay)) 3), (10, .sl K 0 (b.length + 1) 1), (11, .sl (K + 1) 0 m8 0), (12, .sl o 0 (restB ((zr l ts).take i)).length 0), (47, .ro d (.pr 12 (l.map Va.pay)) 2), (48, .int .i64 (l.length : Nat)), (49, .int .i64 (i : Nat))]
def bnHp (ob0 : AM.Obj) (i o : Nat) (H : AM.Heap) : Prop :=
  ∃ obr, H[K]? = some (some ob0) ∧ H[K + 1]? = some (some (bitO m8 (bitN (nulP (zr l ts)) 2 (zer m8) i))) ∧ K + 2 ≤ o ∧ H[o]? = some (some obr) ∧ Rw (.pb (restB ((zr l ts).take i))) 0 obr

set_option maxRecDepth 100000 in
set_option maxHeartbeats 4000000 in
theorem bn_round (ob0 : AM.Obj) (i o : Nat) (v : Va) (t : Ty) (H : AM.Heap) (hn : l.length ≤ 4096) (hnt : l.length = ts.length) (hm : l.length + 2 ≤ 8 * m8) (hR : (restB (zr l ts)).length ≤ 1000000) (hv : l[i]? = some v) (ht : ts[i]? = some t) (h256 : t.t < 256) (hok : v.okR) (hck : chkV v t = 0) (hH : bnHp l ts K m8 ob0 i o H) :
    ∃ code, ((Tryd.f11.body).bind (codeAt [1, 1, 1, 1, 1, 1, 1, 0, 1, 0, 0, 1, 1])) = some code ∧
      Tells (Goes fun fr H' => ∃ o', fr = bnFr b d l e ts K m8 (i + 1) o' ∧ bnHp l ts K m8 ob0 (i + 1) o' H') X (evT X) 11 0 code (bnFr b d l e ts K m8 i o ++ [(50, .bool true)]) H := by
  refine ⟨_, rfl, ?_⟩
  obtain ⟨obr, h0, h1, hoK, h3, hr⟩ := hH
  have hlt := at_lt hv
  have hltT := at_lt ht
  have hLl : (l.map Va.pay).length = l.length := List.length_map _
  have hTl : (ts.map Ty.pay).length = ts.length := List.length_map _
  have hrow : (l.map Va.pay)[i]? = some v.pay := by rw [List.getElem?_map, hv]; rfl
  have hrowT : (ts.map Ty.pay)[i]? = some t.pay := by rw [List.getElem?_map, ht]; rfl
  have hiI : (i : Int) < (l.length : Int) := by omega
  have hiT : (i : Int) < (ts.length : Int) := by omega
  have hz := zr_at hv ht
  have hcat := take_cat paE hz
  have hrb : restB ((zr l ts).take (i + 1)) = restB ((zr l ts).take i) ++ paE ⟨t, false, v⟩ := hcat
  have hnul : nulP (zr l ts) i = decide (v.k = 0) := nul_at hz rfl
  have hrl := restB_le (zr l ts) i
  have w1 : IntKind.i64.wrap ((i : Int) + 1) = ((i + 1 : Nat) : Int) := by rw [wrap_i64 (by omega) (by omega)]; omega
  have hnew : ∀ x : Option AM.Obj, (H ++ [x])[H.length]? = some x := fun x => by simp
  have hoL := at_lt h3
  have hKL := at_lt h1
  by_cases hk : v.k = 0
  · have he : paE ⟨t, false, v⟩ = [] := if_pos (.inr hk)
    rw [he, List.append_nil] at hrb
    have hbl := bitN_len (nulP (zr l ts)) 2 (zer m8) i
    have hzl : (zer m8).length = m8 := by simp [zer]
    have hi8 : (i + 2) / 8 < (bitN (nulP (zr l ts)) 2 (zer m8) i).length := by omega
    have hnx : bitN (nulP (zr l ts)) 2 (zer m8) (i + 1) = (bitN (nulP (zr l ts)) 2 (zer m8) i).set ((i + 2) / 8) (orB ((bitN (nulP (zr l ts)) 2 (zer m8) i).getD ((i + 2) / 8) 0) ((i + 2) % 8)) := by
      rw [bitN, hnul, hk]; rfl
    have hfin : bnHp l ts K m8 ob0 (i + 1) o (upd (H ++ [some (vaO v)]) (K + 1) (some (bitO m8 (bitN (nulP (zr l ts)) 2 (zer m8) (i + 1))))) :=
      ⟨obr, at_ne (at_cat h0) (by omega), at_set (at_cat h1), hoK, at_ne (at_cat h3) (by omega), by rw [hrb]; exact hr⟩
    refine Tells.of (o := ⟨.normal, bnFr b d l e ts K m8 (i + 1) o, _⟩) ?_ ⟨rfl, o, rfl, hfin⟩
    unfold bnFr
    rw [hrb, hnx]
    have h1' := at_cat (r := [some (vaO v)]) h1
    generalize bitN (nulP (zr l ts)) 2 (zer m8) i = bs at *
    obtain ⟨y, hy⟩ : ∃ y, bs[(i + 2) / 8]? = some y := ⟨_, List.getElem?_eq_getElem hi8⟩
    rw [show bs.getD ((i + 2) / 8) 0 = y by rw [List.getD, hy]; rfl]
    have hor := or_bit (y := y) (j := (i + 2) % 8) (Nat.mod_lt _ (by omega))
    have hsh := shl1 (j := (i + 2) % 8) (Nat.mod_lt _ (by omega))
    have w2 : IntKind.i64.wrap ((i : Int) + 2) = ((i + 2 : Nat) : Int) := by rw [wrap_i64 (by omega) (by omega)]; omega
    have e1 : Int.tdiv ((i + 2 : Nat) : Int) 8 = (((i + 2) / 8 : Nat) : Int) := by rw [Int.tdiv_eq_ediv_of_nonneg (by omega)]; omega
    have e2 : Int.tmod ((i + 2 : Nat) : Int) 8 = (((i + 2) % 8 : Nat) : Int) := by rw [Int.tmod_eq_emod_of_nonneg (by omega)]; omega
    have e3 : ((i + 2 : Nat) : Int) / 8 = (((i + 2) / 8 : Nat) : Int) := by omega
    have e4 : ((i + 2 : Nat) : Int) % 8 = (((i + 2) % 8 : Nat) : Int) := by omega
    have wq : IntKind.i64.wrap (((i + 2) / 8 : Nat) : Int) = (((i + 2) / 8 : Nat) : Int) := wrap_i64 (by omega) (by omega)
    have hb8 : (i + 2) / 8 < m8 := by omega
    have hb8i : (((i + 2) / 8 : Nat) : Int) < (m8 : Int) := by omega
    have hr0 : ¬ (((i + 2) % 8 : Nat) : Int) < 0 := by omega
    have hr8 : (i + 2) % 8 < 8 := Nat.mod_lt _ (by omega)
    have yo : UInt8.ofNat (orB y ((i + 2) % 8)).toNat = orB y ((i + 2) % 8) := by simp
    have yl : ((orB y ((i + 2) % 8)).toNat : Int) < 256 := by have := (orB y ((i + 2) % 8)).toNat_lt; omega
    generalize (i + 2) / 8 = q at *
    generalize (i + 2) % 8 = r at *
    generalize i + 2 = j at *
    generalize orB y r = z at *
    generalize 2 ^ r = pw at *
    have hor2 := hor
    simp only [go_sem] at hor2
    simp only [BitVec.toNat_or] at hor
    generalize (restB ((zr l ts).take i)).length = nr at *
    generalize l.map Va.pay = L at *
    generalize ts.map Ty.pay = T at *
    simp only [vaO, Va.pay] at hrow h1'
    simp only [hk] at hrow h1'
    refine ⟨0, ?_⟩
    simp (maxSteps := 2000000) -implicitDefEqProofs [-getElem?_pos, List.getElem?_cons_zero, List.getElem?_cons_succ, go_sem, eqV, plen, loadV, storeV, hlt, hiI, hLl, hrow, vaO, Va.pay, hk, retagL, retag, retagP, flatCells, splice, scalars, scalar, hnew, mkVa, w1, w2, h1', bitO, e1, e2, e3, e4, wq, hb8, hb8i, hi8, hy, hsh, hr0, hor, hor2, yo, yl, show IntKind.u8.bits = 8 from rfl]
  · have hkb : (v.k == 0) = false := by simpa using hk
    obtain ⟨ob1, hw1, hA⟩ := vappend_ev (v := v) (t := t) (Byt.whole (at_cat (r := [some (vaO v)]) h3) hr) (by omega) h256 hok.1 hok.2
    have hap : apV (restB ((zr l ts).take i)) v t = (restB ((zr l ts).take (i + 1)), 0) := by
      unfold apV
      rw [if_pos (by unfold apOk; rw [hck]; simp [hk]), hrb]
      unfold paE
      rw [if_neg (by simp [hk])]
    rw [hap] at hA hw1
    have hfin : bnHp l ts K m8 ob0 (i + 1) (H.length + 1) (H ++ [some (vaO v)] ++ [some ob1]) :=
      ⟨ob1, at_cat (at_cat h0), by unfold bitN; rw [hnul]; simp only [hk, decide_false, Bool.false_eq_true, if_false]; exact at_cat (at_cat h1), by omega, by simp, hw1⟩
    refine Tells.of (o := ⟨.normal, bnFr b d l e ts K m8 (i + 1) (H.length + 1), _⟩) ⟨0, ?_⟩ ⟨rfl, _, rfl, hfin⟩
    unfold bnFr
    generalize (restB ((zr l ts).take (i + 1))).length = n1 at *
    generalize (restB ((zr l ts).take i)).length = nr at *
    generalize l.map Va.pay = L at *
    generalize ts.map Ty.pay = T at *
    simp only [vaO, Va.pay, Ty.pay] at hA hrow hrowT
    simp (maxSteps := 2000000) -implicitDefEqProofs [-getElem?_pos, List.getElem?_cons_zero, List.getElem?_cons_succ, go_sem, eqV, plen, loadV, storeV, hlt, hiI, hLl, hrow, hltT, hiT, hTl, hrowT, vaO, Va.pay, hkb, retagL, retag, retagP, flatCells, splice, scalars, scalar, hnew, mkVa, mkTy, hA, w1, assignV]

end

end Go.Proofs.YtafdnpcamepbmaaDoor

/- Walks: a binary row written: whole. -/
namespace Go.Proofs.YtafdnpcamepbmaaDoor
open Go.AM
set_option linter.unusedSimpArgs false
set_option linter.unusedVariables false

def bcFr (A L T : AV) (n i : Nat) : AM.Frame := [(0, A), (1, L), (2, T), (23, L), (24, .int .i64 (n : Nat)), (25, .int .i64 (i : Nat))]

theorem zr_bad {l : List Va} {ts : List Ty} {i : Nat} {v : Va} {t : Ty} (h1 : l[i]? = some v) (h2 : ts[i]? = some t) (h : chkV v t ≠ 0) : (zr l ts).any Pm.bad = true :=
  List.any_eq_true.2 ⟨_, List.mem_of_getElem? (zr_at h1 h2), by unfold Pm.bad; simp [h]⟩
theorem zr_fine {l : List Va} {ts : List Ty} (hn : l.length = ts.length) (h : ∀ (i : Nat) (v : Va) (t : Ty), l[i]? = some v → ts[i]? = some t → chkV v t = 0) : ¬ (zr l ts).any Pm.bad = true := by
  intro hx
  obtain ⟨p, hp, hb⟩ := List.any_eq_true.1 hx
  obtain ⟨i, hi⟩ := List.mem_iff_getElem?.1 hp
  have hlt := at_lt hi
  rw [zr_len hn] at hlt
  obtain ⟨v, hv⟩ : ∃ p, l[i]? = some p := ⟨_, List.getElem?_eq_getElem hlt⟩
  obtain ⟨t, ht⟩ : ∃ p, ts[i]? = some p := ⟨_, List.getElem?_eq_getElem (by omega)⟩
  rw [zr_at hv ht] at hi
  obtain rfl := Option.some.inj hi
  unfold Pm.bad at hb
  simp [h i v t hv ht] at hb

section
variable (c : Nat) (b : List UInt8) (d : Nat) (l : List Va) (e : Nat) (ts : List Ty)

set_option maxRecDepth 100000 in
set_option maxHeartbeats 4000000 in
theorem bc_loop (A : AV) (H : AM.Heap) (hl : ∀ v ∈ l, v.okR) (ht : ∀ t ∈ ts, t.t < 256) (hn : l.length ≤ 4096) (hnt : l.length = ts.length) :
    ∃ code, ((Tryd.f11.body).bind (codeAt [1, 1, 1, 0, 1])) = some code ∧
      Tells (Or2 (fun fr H => (∀ (i : Nat) (v : Va) (t : Ty), l[i]? = some v → ts[i]? = some t → chkV v t = 0) ∧ fr = bcFr A (.ro d (.pr 12 (l.map Va.pay)) 2) (.ro e (.pr 2 (ts.map Ty.pay)) 3) l.length l.length ++ [(26, .bool false)]) (fun out => out.ex = .ret ∧ (zr l ts).any Pm.bad = true ∧ ∃ o, getF out.fr 6 = .sl o 0 0 0 ∧ getF out.fr 7 = .int .i64 2 ∧ out.H[o]? = some (some nilB)))
       X (evT X) 11 0 code (bcFr A (.ro d (.pr 12 (l.map Va.pay)) 2) (.ro e (.pr 2 (ts.map Ty.pay)) 3) l.length 0) H := by
  refine ⟨_, rfl, ?_⟩
  have hLl : (l.map Va.pay).length = l.length := List.length_map _
  have hTl : (ts.map Ty.pay).length = ts.length := List.length_map _
  have hLat : ∀ (i : Nat) (v : Va), l[i]? = some v → (l.map Va.pay)[i]? = some v.pay := fun i p h => (by rw [List.getElem?_map, h]; rfl)
  have hTat : ∀ (i : Nat) (v : Ty), ts[i]? = some v → (ts.map Ty.pay)[i]? = some v.pay := fun i p h => (by rw [List.getElem?_map, h]; rfl)
  generalize l.map Va.pay = L at *
  generalize ts.map Ty.pay = T at *
  apply Tells.blockOr
  refine Tells.loopP (fun k fr H => ∃ i, k = l.length - i ∧ i ≤ l.length ∧ fr = bcFr A (.ro d (.pr 12 L) 2) (.ro e (.pr 2 T) 3) l.length i ∧ ∀ (j : Nat) (v : Va) (t : Ty), j < i → l[j]? = some v → ts[j]? = some t → chkV v t = 0) ?_ (k := l.length) ⟨0, rfl, by omega, rfl, by omega⟩
  rintro k fr H ⟨i, rfl, hi, rfl, hall⟩
  by_cases hin : i = l.length
  · subst hin
    refine Tells.of (o := ⟨.exit 0, bcFr A (.ro d (.pr 12 L) 2) (.ro e (.pr 2 T) 3) l.length l.length ++ [(26, .bool false)], H⟩) ⟨0, ?_⟩ (.inr ⟨by simp, .inl ⟨rfl, fun i v t hv ht => hall i v t (at_lt hv) hv ht, rfl⟩⟩)
    simp (maxSteps := 2000000) -implicitDefEqProofs [-getElem?_pos, List.getElem?_cons_zero, List.getElem?_cons_succ, go_sem, eqV, plen, loadV, storeV, bcFr]
  have hlt : i < l.length := by omega
  have hiI : (i : Int) < (l.length : Int) := by omega
  have hltT : i < ts.length := by omega
  have hiT : (i : Int) < (ts.length : Int) := by omega
  obtain ⟨v, hv⟩ : ∃ p, l[i]? = some p := ⟨_, List.getElem?_eq_getElem hlt⟩
  obtain ⟨t, htt⟩ : ∃ p, ts[i]? = some p := ⟨_, List.getElem?_eq_getElem hltT⟩
  have hrow := hLat i v hv
  have hrowT := hTat i t htt
  have hm := List.mem_of_getElem? hv
  have hmt := List.mem_of_getElem? htt
  have hnew : ∀ x : Option AM.Obj, (H ++ [x])[H.length]? = some x := fun x => by simp
  have w1 : IntKind.i64.wrap ((i : Int) + 1) = ((i + 1 : Nat) : Int) := by rw [wrap_i64 (by omega) (by omega)]; omega
  have hC := check_ev (v := v) (t := t) (ht t hmt) (hl v hm).1 (hl v hm).2 (H ++ [some (vaO v)])
  simp only [vaO, Va.pay, Ty.pay] at hC hrow hrowT
  by_cases h0 : chkV v t = 0
  · rw [h0] at hC
    refine Tells.of (o := ⟨.normal, bcFr A (.ro d (.pr 12 L) 2) (.ro e (.pr 2 T) 3) l.length (i + 1), H ++ [some (vaO v)]⟩) ⟨0, ?_⟩ (.inl ⟨rfl, l.length - (i + 1), by omega, i + 1, rfl, by omega, rfl, fun j v' t' hj hv' ht' => ?_⟩)
    · simp (maxSteps := 2000000) -implicitDefEqProofs [-getElem?_pos, List.getElem?_cons_zero, List.getElem?_cons_succ, go_sem, eqV, plen, loadV, storeV, bcFr, hiI, hlt, hLl, hrow, hiT, hltT, hTl, hrowT, vaO, Va.pay, Ty.pay, retagL, retag, retagP, flatCells, splice, scalars, scalar, hnew, mkVa, mkTy, hC, w1]
    · by_cases hji : j = i
      · subst hji
        rw [hv] at hv'; obtain rfl := Option.some.inj hv'
        rw [htt] at ht'; obtain rfl := Option.some.inj ht'
        exact h0
      · exact hall j v' t' (by omega) hv' ht'
  · have h0b : (chkV v t != 0) = true := by simpa using h0
    refine Tells.of (o := ⟨.ret, [(6, .sl (H.length + 1) 0 0 0), (7, .int .i64 2)], H ++ [some (vaO v)] ++ [some nilB]⟩) ⟨0, ?_⟩ (.inr ⟨by simp, .inr ⟨rfl, rfl, zr_bad hv htt h0, H.length + 1, rfl, rfl, by simp⟩⟩)
    generalize chkV v t = ck at *
    simp (maxSteps := 2000000) -implicitDefEqProofs [-getElem?_pos, List.getElem?_cons_zero, List.getElem?_cons_succ, go_sem, eqV, plen, loadV, storeV, bcFr, hiI, hlt, hLl, hrow, hiT, hltT, hTl, hrowT, vaO, Va.pay, Ty.pay, retagL, retag, retagP, flatCells, splice, scalars, scalar, hnew, mkVa, mkTy, hC, h0b, assignV, emB]

set_option maxRecDepth 100000 in
set_option maxHeartbeats 4000000 in
theorem bapp_code (hc : c = 0 → b = []) (hb : b.length ≤ 2000000) (hl : ∀ v ∈ l, v.okR) (ht : ∀ t ∈ ts, t.t < 256) (hR : (restB (zr l ts)).length ≤ 1000000) (hlb : l.length ≤ 100000000) : ∃ code, Tryd.f11.body = some code ∧
    Tells (Rets fun fr H => ∃ o g ob, getF fr 6 = .sl o 0 (bnApp b l ts).1.length g ∧ getF fr 7 = .int .i64 (bnApp b l ts).2 ∧ H[o]? = some (some ob) ∧ Rw (.pb (bnApp b l ts).1) g ob) X (evT X) 11 0 code [(0, .ro c (.pb b) 1), (1, .ro d (.pr 12 (l.map Va.pay)) 2), (2, .ro e (.pr 2 (ts.map Ty.pay)) 3)] [] := by
  refine ⟨_, rfl, ?_⟩
  obtain ⟨L, hLm⟩ : ∃ L, l.map Va.pay = L := ⟨_, rfl⟩
  obtain ⟨T, hTm⟩ : ∃ L, ts.map Ty.pay = L := ⟨_, rfl⟩
  have hLl : L.length = l.length := by rw [← hLm]; exact List.length_map _
  have hTl : T.length = ts.length := by rw [← hTm]; exact List.length_map _
  rw [hLm, hTm]
  apply Tells.seq (fr' := [(0, .ro c (.pb b) 1), (1, .ro d (.pr 12 L) 2), (2, .ro e (.pr 2 T) 3)]) (H' := [some nilB])
  · (refine ⟨0, ?_⟩; simp (maxSteps := 2000000) -implicitDefEqProofs [-getElem?_pos, List.getElem?_cons_zero, List.getElem?_cons_succ, go_sem, eqV, plen, loadV, storeV, assignV, emB])
  by_cases h5 : 4096 < ts.length
  · rw [show bnApp b l ts = ([], 3) from if_pos h5]
    refine Tells.of (o := ⟨.ret, [(6, .sl 1 0 0 0), (7, .int .i64 3)], [some nilB, some nilB]⟩) ?_ ⟨rfl, 1, 0, nilB, rfl, rfl, rfl, nilB_rw⟩
    apply Run.seq_out (hne := by simp)
    have h5i : (4096 : Int) < (ts.length : Int) := by omega
    refine ⟨0, ?_⟩
    simp (maxSteps := 2000000) -implicitDefEqProofs [-getElem?_pos, List.getElem?_cons_zero, List.getElem?_cons_succ, go_sem, eqV, plen, loadV, storeV, assignV, emB, h5i, hTl]
  have h5i : ¬ (4096 : Int) < (ts.length : Int) := by omega
  apply Tells.seq (fr' := [(0, .ro c (.pb b) 1), (1, .ro d (.pr 12 L) 2), (2, .ro e (.pr 2 T) 3), (17, .bool false)]) (H' := [some nilB])
  · (refine ⟨0, ?_⟩; simp (maxSteps := 2000000) -implicitDefEqProofs [-getElem?_pos, List.getElem?_cons_zero, List.getElem?_cons_succ, go_sem, eqV, plen, loadV, storeV, assignV, emB, h5i, hTl])
  by_cases hnt : l.length ≠ ts.length
  · rw [show bnApp b l ts = ([], 2) by unfold bnApp; rw [if_neg h5, if_pos hnt]]
    have hnb : ((l.length : Int) != (ts.length : Int)) = true := by simp; omega
    refine Tells.of (o := ⟨.ret, [(6, .sl 1 0 0 0), (7, .int .i64 2)], [some nilB, some nilB]⟩) ?_ ⟨rfl, 1, 0, nilB, rfl, rfl, rfl, nilB_rw⟩
    apply Run.seq_out (hne := by simp)
    refine ⟨0, ?_⟩
    simp (maxSteps := 2000000) -implicitDefEqProofs [-getElem?_pos, List.getElem?_cons_zero, List.getElem?_cons_succ, go_sem, eqV, plen, loadV, storeV, assignV, emB, hLl, hTl, hnb]
  have hnt : l.length = ts.length := by omega
  have hnb : ((l.length : Int) != (ts.length : Int)) = false := by rw [hnt]; simp
  apply Tells.seq (fr' := [(0, .ro c (.pb b) 1), (1, .ro d (.pr 12 L) 2), (2, .ro e (.pr 2 T) 3), (22, .bool false)]) (H' := [some nilB])
  · (refine ⟨0, ?_⟩; simp (maxSteps := 2000000) -implicitDefEqProofs [-getElem?_pos, List.getElem?_cons_zero, List.getElem?_cons_succ, go_sem, eqV, plen, loadV, storeV, hLl, hTl, hnb])
  apply Tells.assoc
  apply Tells.seq (fr' := bcFr (.ro c (.pb b) 1) (.ro d (.pr 12 L) 2) (.ro e (.pr 2 T) 3) l.length 0) (H' := [some nilB])
  · (refine ⟨0, ?_⟩; simp (maxSteps := 2000000) -implicitDefEqProofs [-getElem?_pos, List.getElem?_cons_zero, List.getElem?_cons_succ, go_sem, eqV, plen, loadV, storeV, bcFr, hLl])
  generalize hHH : ([some nilB] : AM.Heap) = HH
  rw [← hLm, ← hTm]
  apply Tells.or (P := fun fr H => (∀ (i : Nat) (v : Va) (t : Ty), l[i]? = some v → ts[i]? = some t → chkV v t = 0) ∧ fr = bcFr (.ro c (.pb b) 1) (.ro d (.pr 12 (l.map Va.pay)) 2) (.ro e (.pr 2 (ts.map Ty.pay)) 3) l.length l.length ++ [(26, .bool false)])
  · refine (piece (bc_loop d l e ts (.ro c (.pb b) 1) HH hl ht (by omega) hnt) _ rfl).mono ?_
    rintro out (h | ⟨h1, h2, hbd, o, q6, q7, q8⟩)
    · exact .inl h
    · have hbd : bnApp b l ts = ([], 2) := by unfold bnApp; rw [if_neg h5, if_neg (by omega), if_pos hbd]
      exact .inr ⟨h1, h2, o, 0, nilB, by rw [hbd]; exact q6, by rw [hbd]; exact q7, q8, by rw [hbd]; exact nilB_rw⟩
  rintro fr H ⟨hok, rfl⟩
  have hpa : bnApp b l ts = (b ++ bnB (zr l ts), 0) := by
    unfold bnApp
    rw [if_neg h5, if_neg (by omega), if_neg (zr_fine hnt hok)]
  have hzl := zr_len hnt
  rw [hpa, hLm, hTm]
  obtain ⟨ob0, hw0, hA0⟩ := clone_ev (H := H) (a := .ro c (.pb b) 1) (b := b) (Byt.ro (.inl rfl) hc) (by omega)
  have hK : (H ++ [some ob0])[H.length]? = some (some ob0) := by simp
  obtain ⟨ob1, hw1, hA1⟩ := app_b (H := H ++ [some ob0]) (o := H.length) (m := [0]) (src := .ro 1 (.pb [0]) 0) hK hw0 (.inl rfl) (by simp; omega)
  have hup : upd (H ++ [some ob0]) H.length (some ob1) = H ++ [some ob1] := by unfold upd; simp
  rw [hup] at hA1
  have hbs := fun H => bsK H 0 0 rfl
  apply Tells.seq (fr' := [(1, .ro d (.pr 12 L) 2), (2, .ro e (.pr 2 T) 3), (10, .sl H.length 0 (b.length + 1) 1)]) (H' := H ++ [some ob1])
  · simp only [List.length_cons, List.length_nil, Nat.zero_add] at hA1
    (refine ⟨0, ?_⟩; simp (maxSteps := 2000000) -implicitDefEqProofs [-getElem?_pos, List.getElem?_cons_zero, List.getElem?_cons_succ, go_sem, eqV, plen, loadV, storeV, bcFr, hA0, hbs, hA1, assignV])
  have hM := mkB (n := (l.length + 9) / 8) (by omega) (H ++ [some ob1])
  have w7 : IntKind.i64.wrap ((l.length : Int) + 9) = ((l.length + 9 : Nat) : Int) := by rw [wrap_i64 (by omega) (by omega)]; omega
  have w8 : IntKind.i64.wrap (((l.length + 9 : Nat) : Int) / 8) = (((l.length + 9) / 8 : Nat) : Int) := by
    rw [wrap_i64 (by omega) (by omega)]; omega
  simp only [List.length_append, List.length_cons, List.length_nil, Nat.zero_add] at hM
  generalize hm8 : (l.length + 9) / 8 = m8 at *
  generalize hn7 : l.length + 9 = n7 at *
  apply Tells.seq (fr' := [(1, .ro d (.pr 12 L) 2), (2, .ro e (.pr 2 T) 3), (10, .sl H.length 0 (b.length + 1) 1), (11, .sl (H.length + 1) 0 m8 0)]) (H' := H ++ [some ob1] ++ [some (bitO m8 (zer m8))])
  · (refine ⟨0, ?_⟩; simp (maxSteps := 2000000) -implicitDefEqProofs [-getElem?_pos, List.getElem?_cons_zero, List.getElem?_cons_succ, go_sem, eqV, plen, loadV, storeV, assignV, hLl, w7, w8, hM, bitO, zer])
  apply Tells.seq (fr' := [(1, .ro d (.pr 12 L) 2), (2, .ro e (.pr 2 T) 3), (10, .sl H.length 0 (b.length + 1) 1), (11, .sl (H.length + 1) 0 m8 0), (12, .sl (H.length + 2) 0 0 0)]) (H' := H ++ [some ob1] ++ [some (bitO m8 (zer m8))] ++ [some nilB])
  · (refine ⟨0, ?_⟩; simp (maxSteps := 2000000) -implicitDefEqProofs [-getElem?_pos, List.getElem?_cons_zero, List.getElem?_cons_succ, go_sem, eqV, plen, loadV, storeV, assignV, emB])
  apply Tells.assoc
  apply Tells.seq (fr' := bnFr b d l e ts H.length m8 0 (H.length + 2)) (H' := H ++ [some ob1] ++ [some (bitO m8 (zer m8))] ++ [some nilB])
  · have r0 : (restB ((zr l ts).take 0)).length = 0 := rfl
    unfold bnFr
    rw [r0, hLm, hTm]
    (refine ⟨0, ?_⟩; simp (maxSteps := 2000000) -implicitDefEqProofs [-getElem?_pos, List.getElem?_cons_zero, List.getElem?_cons_succ, go_sem, eqV, plen, loadV, storeV, hLl])
  generalize hK0 : H.length = K at *
  have hH0 : bnHp l ts K m8 ob1 0 (K + 2) (H ++ [some ob1] ++ [some (bitO m8 (zer m8))] ++ [some nilB]) :=
    ⟨nilB, by subst hK0; exact at_cat (at_cat (by simp)), by subst hK0; exact at_cat (by rw [show H.length + 1 = (H ++ [some ob1]).length by simp]; simp [bitN]), by omega, by subst hK0; rw [show H.length + 2 = (H ++ [some ob1] ++ [some (bitO m8 (zer m8))]).length by simp]; simp, nilB_rw⟩
  generalize H ++ [some ob1] ++ [some (bitO m8 (zer m8))] ++ [some nilB] = H0 at *
  apply Tells.blockThen (P := fun fr H => ∃ o, fr = bnFr b d l e ts K m8 l.length o ++ [(50, .bool false)] ∧ bnHp l ts K m8 ob1 l.length o H)
  · refine Tells.loopP (fun k fr H => ∃ i o, k = l.length - i ∧ i ≤ l.length ∧ fr = bnFr b d l e ts K m8 i o ∧ bnHp l ts K m8 ob1 i o H) ?_ (k := l.length) ⟨0, K + 2, rfl, by omega, rfl, hH0⟩
    rintro k fr H ⟨i, o, rfl, hi, rfl, hH⟩
    by_cases hin : i = l.length
    · subst hin
      refine Tells.of (o := ⟨.exit 2, bnFr b d l e ts K m8 l.length o ++ [(50, .bool false)], H⟩) ⟨0, ?_⟩ (.inr ⟨by simp, .inl ⟨rfl, o, rfl, hH⟩⟩)
      unfold bnFr
      rw [hLm, hTm]
      generalize (restB ((zr l ts).take l.length)).length = nr at *
      simp (maxSteps := 2000000) -implicitDefEqProofs [-getElem?_pos, List.getElem?_cons_zero, List.getElem?_cons_succ, go_sem, eqV, plen, loadV, storeV]
    have hiI : (i : Int) < (l.length : Int) := by omega
    obtain ⟨v, hv⟩ : ∃ p, l[i]? = some p := ⟨_, List.getElem?_eq_getElem (show i < l.length by omega)⟩
    obtain ⟨t, htt⟩ : ∃ p, ts[i]? = some p := ⟨_, List.getElem?_eq_getElem (show i < ts.length by omega)⟩
    apply Tells.seq (fr' := bnFr b d l e ts K m8 i o ++ [(50, .bool true)]) (H' := H)
    · unfold bnFr
      rw [hLm, hTm]
      generalize (restB ((zr l ts).take i)).length = nr at *
      (refine ⟨0, ?_⟩; simp (maxSteps := 2000000) -implicitDefEqProofs [-getElem?_pos, List.getElem?_cons_zero, List.getElem?_cons_succ, go_sem, eqV, plen, loadV, storeV, hiI])
    apply Tells.seq (fr' := bnFr b d l e ts K m8 i o ++ [(50, .bool true)]) (H' := H)
    · refine condT (by simp [evalO, getF, bnFr]) ?_
      exact ⟨0, rfl⟩
    refine (piece (bn_round b d l e ts K m8 ob1 i o v t H (by omega) hnt (by omega) hR hv htt (ht t (List.mem_of_getElem? htt)) (hl v (List.mem_of_getElem? hv)) (hok i v t hv htt) hH) _ rfl).mono ?_
    rintro q ⟨h1, o', h2, h3⟩
    exact .inl ⟨h1, l.length - (i + 1), by omega, i + 1, o', rfl, by omega, h2, h3⟩
  rintro fr H' ⟨o, rfl, obr, q0, q1, hoK, q3, hr⟩
  have hzt : (zr l ts).take l.length = zr l ts := List.take_of_length_le (by omega)
  rw [hzt] at hr
  have hbl : (bitN (nulP (zr l ts)) 2 (zer m8) l.length).length = m8 := by rw [bitN_len]; simp [zer]
  have hbB : bnB (zr l ts) = 0 :: (bitN (nulP (zr l ts)) 2 (zer m8) l.length ++ restB (zr l ts)) := by unfold bnB bitsR; rw [hzl, hn7, hm8]
  rw [hbB]
  generalize bitN (nulP (zr l ts)) 2 (zer m8) l.length = bs at *
  have hwb : Rw (.pb bs) 0 (bitO m8 bs) := ⟨rfl, rfl, rfl, rfl, rfl⟩
  obtain ⟨ob2, hw2, hA2⟩ := app_b (H := H') (o := K) (m := bs) (src := .sl (K + 1) 0 m8 0) q0 hw1 (.inl (srcW q1 hwb hbl.symm)) (by simp; omega)
  rw [show (b ++ [(0 : UInt8)]).length = b.length + 1 by simp, hbl] at hA2
  have q3' : (upd H' K (some ob2))[o]? = some (some obr) := at_ne q3 (by omega)
  have q0' : (upd H' K (some ob2))[K]? = some (some ob2) := at_set q0
  obtain ⟨ob3, hw3, hA3⟩ := app_b (H := upd H' K (some ob2)) (o := K) (m := restB (zr l ts)) (src := .sl o 0 (restB (zr l ts)).length 0) q0' hw2 (.inl (srcW q3' hr rfl)) (by simp; omega)
  rw [show (b ++ [(0 : UInt8)] ++ bs).length = b.length + 1 + m8 by simp [hbl]; omega] at hA3
  refine Tells.of (o := ⟨.ret, [(6, .sl K 0 (b.length + 1 + m8 + (restB (zr l ts)).length) 3), (7, .int .i64 0)], upd (upd H' K (some ob2)) K (some ob3)⟩) ⟨0, ?_⟩ ⟨rfl, K, 3, ob3, ?_, rfl, at_set q0', ?_⟩
  · unfold bnFr
    rw [hLm, hTm, hzt]
    generalize (restB (zr l ts)).length = n2 at *
    simp only [upd, List.set_set, Nat.reduceAdd] at hA2 hA3
    simp (maxSteps := 2000000) -implicitDefEqProofs [-getElem?_pos, List.getElem?_cons_zero, List.getElem?_cons_succ, go_sem, eqV, plen, loadV, storeV, hA2, hA3, assignV]
  · simp only [getF, List.length_append, List.length_cons]; simp; omega
  · rw [show b ++ 0 :: (bs ++ restB (zr l ts)) = b ++ [0] ++ bs ++ restB (zr l ts) by simp]; exact hw3

end

theorem bapp_ev {H : AM.Heap} {a A B : AV} {b : List UInt8} {l : List Va} {ts : List Ty} (h : Byt H a b) (hA : RoV H A l) (hB : RoT H B ts) (hb : b.length ≤ 2000000) (hl : ∀ p ∈ l, p.okR) (ht : ∀ t ∈ ts, t.t < 256) (hR : (restB (zr l ts)).length ≤ 1000000) (hlb : l.length ≤ 100000000) :
    ∃ ob, Rw (.pb (bnApp b l ts).1) 0 ob ∧ evT X 11 [a, A, B] H = some (.tup [.sl H.length 0 (bnApp b l ts).1.length 0, .int .i64 (bnApp b l ts).2], H ++ [some ob]) := by
  obtain ⟨e, pt, xt, hpt, he, hxt⟩ := args_t (f := 11) (i := 2) rfl hB (args_nil 3)
  obtain ⟨d, pv, xv, hpv, hd, hxv⟩ := args_v (f := 11) (i := 1) rfl hA hxt
  obtain ⟨c, p, xl, hp, hc, hx'⟩ := args_byt (C := X) (f := 11) (i := 0) rfl h hxv
  obtain ⟨code, hcode, hr⟩ := bapp_code c b d l e ts hc hb hl ht hR hlb
  obtain ⟨ob, q1, q2⟩ := Ev1.newB (H := H) (n := (bnApp b l ts).1.length) (l := (bnApp b l ts).1) (rest := [.int .i64 (bnApp b l ts).2]) (evT_below X) Tryd.func11 hcode hx' (by simp [idsL, ids, hp.ids, hpv.ids, hpt.ids]) (by simp [gtag]) rfl rfl rfl (by
    obtain ⟨o, ⟨he, o1, g, ob, q1, q2, q3, q4⟩, hrun⟩ := hr
    exact ⟨o, ⟨he, o1, g, ob, by show some [getF o.fr 6, getF o.fr 7] = _; rw [q1, q2], q3, q4⟩, by rw [par11, coB hp, coV hpv, coT hpt, coerce_nil]; exact hrun⟩)
  exact ⟨ob, q1, evT_eq q2⟩

end Go.Proofs.YtafdnpcamepbmaaDoor

/- Walks: a text row read: whole. -/
namespace Go.Proofs.YtafdnpcamepbmaaDoor
open Go.AM
set_option linter.unusedSimpArgs false
set_option linter.unusedVariables false

section
variable (c : Nat)

set_option maxRecDepth 100000 in
set_option maxHeartbeats 4000000 in
theorem yt_loop (n : Nat) (b : List UInt8) (H : AM.Heap) (hn : n ≤ 4096) (hc : c = 0 → b = []) (hb : b.length ≤ 90000000) (hH : ytHp [] H) :
    ∃ code, ((Tryd.f12.body).bind (codeAt [1, 1, 1, 0, 1])) = some code ∧
      Tells (Or2 (fun fr H => ∃ a r, a.length = n ∧ fr = ytFr c n n r ++ [(18, .bool false)] ∧ rdTx n [] b = (a, r, 0) ∧ ytHp a H) (fun out => out.ex = .ret ∧ ∃ e, e ≠ 0 ∧ rdTx n [] b = ([], [], e) ∧ ytQ ([], e) out.fr out.H))
       X (evT X) 12 0 code (ytFr c n 0 b) H := by
  refine ⟨_, rfl, ?_⟩
  apply Tells.blockOr
  refine Tells.loopP (fun k fr H => ∃ a r, k = n - a.length ∧ a.length ≤ n ∧ fr = ytFr c n a.length r ∧ r.length ≤ b.length ∧ rdTx n [] b = rdTx (n - a.length) a r ∧ ytHp a H) ?_ (k := n) ⟨[], b, by simp, by simp, rfl, by simp, by simp, hH⟩
  rintro k fr H ⟨a, r, rfl, ha, rfl, hr, hX, hH⟩
  by_cases hin : a.length = n
  · refine Tells.of (o := ⟨.exit 0, ytFr c n n r ++ [(18, .bool false)], H⟩) ⟨0, ?_⟩ (.inr ⟨by simp, .inl ⟨rfl, a, r, hin, rfl, by rw [hX, hin, Nat.sub_self]; rfl, hH⟩⟩)
    rw [hin]
    simp (maxSteps := 2000000) -implicitDefEqProofs [-getElem?_pos, List.getElem?_cons_zero, List.getElem?_cons_succ, go_sem, eqV, plen, loadV, storeV, ytFr]
  have hiI : ((a.length : Nat) : Int) < (n : Int) := by omega
  apply Tells.seq (fr' := ytFr c n a.length r ++ [(18, .bool true)]) (H' := H)
  · unfold ytFr
    generalize a.length = i at *
    (refine ⟨0, ?_⟩; simp (maxSteps := 2000000) -implicitDefEqProofs [-getElem?_pos, List.getElem?_cons_zero, List.getElem?_cons_succ, go_sem, eqV, plen, loadV, storeV, hiI])
  apply Tells.seq (fr' := ytFr c n a.length r ++ [(18, .bool true)]) (H' := H)
  · refine condT (by simp [evalO, getF, ytFr]) ?_
    exact ⟨0, rfl⟩
  have hs : n - a.length = (n - (a.length + 1)) + 1 := by omega
  apply Tells.or (P := fun fr H' => ∃ r' v, fr = [(0, .ro c (.pb r') 1), (6, .sl 1 0 (a.length + 1) (a.length + 1)), (16, .int .i64 (n : Nat)), (17, .int .i64 (a.length : Nat))] ∧ r'.length ≤ r.length ∧ (∀ k, rdTx (k + 1) a r = rdTx k (a ++ [v]) r') ∧ ytHp (a ++ [v]) H')
  · refine (piece (yt_round c n r a H (by omega) (fun h => List.eq_nil_of_length_eq_zero (by have := hc h; subst this; simpa using hr)) (by omega) hH) _ rfl).mono ?_
    rintro o (h | ⟨h1, h2, e, he, h3, h4⟩)
    · exact .inl h
    · exact .inr ⟨h1, .inr ⟨h1, .inr ⟨h2, h2, e, he, by rw [hX, hs, h3], h4⟩⟩⟩
  rintro fr H' ⟨r', v, rfl, h1, h2, h3⟩
  have w1 : IntKind.i64.wrap (((a.length : Nat) : Int) + 1) = ((a.length + 1 : Nat) : Int) := by rw [wrap_i64 (by omega) (by omega)]; omega
  refine Tells.of (o := ⟨.normal, ytFr c n (a.length + 1) r', H'⟩) ⟨0, ?_⟩ (.inl ⟨rfl, n - (a.length + 1), by omega, a ++ [v], r', by simp, by simp; omega, by simp, by omega, by rw [hX, hs, h2]; simp, h3⟩)
  unfold ytFr
  generalize a.length = i at *
  simp (maxSteps := 2000000) -implicitDefEqProofs [-getElem?_pos, List.getElem?_cons_zero, List.getElem?_cons_succ, go_sem, eqV, plen, loadV, storeV, w1]

set_option maxRecDepth 100000 in
set_option maxHeartbeats 4000000 in
theorem trd_code (b : List UInt8) (n : Int) (hc : c = 0 → b = []) (hb : b.length ≤ 90000000) : ∃ code, Tryd.f12.body = some code ∧
    Tells (Rets (ytQ (rdTxt b n))) X (evT X) 12 0 code [(0, .ro c (.pb b) 1), (1, .int .i64 n)] [] := by
  refine ⟨_, rfl, ?_⟩
  apply Tells.seq (fr' := [(0, .ro c (.pb b) 1), (1, .int .i64 n)]) (H' := [some nilV])
  · (refine ⟨0, ?_⟩; simp (maxSteps := 2000000) -implicitDefEqProofs [-getElem?_pos, List.getElem?_cons_zero, List.getElem?_cons_succ, go_sem, eqV, plen, loadV, storeV, assignV, emV])
  by_cases h1 : n < 0 ∨ 4096 < n
  · rw [show rdTxt b n = ([], 2) from if_pos h1]
    refine Tells.of (o := ⟨.ret, [(4, .sl 1 0 0 0), (5, .int .i64 2)], [some nilV, some nilV]⟩) ?_ ⟨rfl, 1, 0, nilV, rfl, rfl, rfl, nilV_rw⟩
    apply Run.seq_out (hne := by simp)
    refine ⟨0, ?_⟩
    by_cases h2 : n < 0
    · simp (maxSteps := 2000000) -implicitDefEqProofs [-getElem?_pos, List.getElem?_cons_zero, List.getElem?_cons_succ, go_sem, eqV, plen, loadV, storeV, assignV, emV, h2]
    · have h3 : 4096 < n := by omega
      simp (maxSteps := 2000000) -implicitDefEqProofs [-getElem?_pos, List.getElem?_cons_zero, List.getElem?_cons_succ, go_sem, eqV, plen, loadV, storeV, assignV, emV, h2, h3]
  have h2 : ¬ n < 0 := by omega
  have h3 : ¬ 4096 < n := by omega
  obtain ⟨m, rfl⟩ : ∃ m : Nat, n = (m : Nat) := ⟨n.toNat, by omega⟩
  apply Tells.seq (fr' := [(0, .ro c (.pb b) 1), (1, .int .i64 (m : Nat)), (15, .bool false)]) (H' := [some nilV])
  · (refine ⟨0, ?_⟩; simp (maxSteps := 2000000) -implicitDefEqProofs [-getElem?_pos, List.getElem?_cons_zero, List.getElem?_cons_succ, go_sem, eqV, plen, loadV, storeV, h2, h3])
  apply Tells.seq (fr' := [(0, .ro c (.pb b) 1), (1, .int .i64 (m : Nat)), (6, .sl 1 0 0 0)]) (H' := [some nilV, some nilV])
  · (refine ⟨0, ?_⟩; simp (maxSteps := 2000000) -implicitDefEqProofs [-getElem?_pos, List.getElem?_cons_zero, List.getElem?_cons_succ, go_sem, eqV, plen, loadV, storeV, assignV, emV])
  apply Tells.assoc
  apply Tells.seq (fr' := ytFr c m 0 b) (H' := [some nilV, some nilV])
  · (refine ⟨0, ?_⟩; simp (maxSteps := 2000000) -implicitDefEqProofs [-getElem?_pos, List.getElem?_cons_zero, List.getElem?_cons_succ, go_sem, eqV, plen, loadV, storeV, ytFr])
  have hrd : rdTxt b (m : Nat) = rwZ (rdTx m [] b) := by unfold rdTxt; rw [if_neg h1]; rfl
  rw [hrd]
  apply Tells.or (P := fun fr H => ∃ a r, a.length = m ∧ fr = ytFr c m m r ++ [(18, .bool false)] ∧ rdTx m [] b = (a, r, 0) ∧ ytHp a H)
  · refine (piece (yt_loop c m b [some nilV, some nilV] (by omega) hc hb ⟨nilV, rfl, nilV_rw⟩) _ rfl).mono ?_
    rintro out (h | ⟨q1, q2, e, he, q3, q4⟩)
    · exact .inl h
    · refine .inr ⟨q1, q2, ?_⟩
      rw [q3, show rwZ ([], [], e) = ([], e) by unfold rwZ; rw [if_pos he]]
      exact q4
  rintro fr H ⟨a, r, ha, rfl, hX, ob, ho, hw⟩
  rw [hX]
  cases r with
  | cons y r =>
    have hp : (0 : Int) < ((r.length + 1 : Nat) : Int) := by omega
    have hp2 : (0 : Int) < (r.length : Int) + 1 := by omega
    rw [show rwZ (a, y :: r, 0) = ([], 5) by unfold rwZ; simp]
    refine Tells.of (o := ⟨.ret, [(4, .sl H.length 0 0 0), (5, .int .i64 5)], H ++ [some nilV]⟩) ?_ ⟨rfl, H.length, 0, nilV, rfl, rfl, by simp, nilV_rw⟩
    apply Run.seq_out (hne := by simp)
    refine ⟨0, ?_⟩
    simp (maxSteps := 2000000) -implicitDefEqProofs [-getElem?_pos, List.getElem?_cons_zero, List.getElem?_cons_succ, go_sem, eqV, plen, loadV, storeV, ytFr, hp, hp2, assignV, emV]
  | nil =>
    rw [show rwZ (a, [], 0) = (a, 0) by unfold rwZ; simp]
    refine Tells.of (o := ⟨.ret, [(4, .sl 1 0 m m), (5, .int .i64 0)], H⟩) ⟨0, ?_⟩ ⟨rfl, 1, m, ob, by simp [getF, ha], rfl, ho, by rw [← ha]; exact hw⟩
    simp (maxSteps := 2000000) -implicitDefEqProofs [-getElem?_pos, List.getElem?_cons_zero, List.getElem?_cons_succ, go_sem, eqV, plen, loadV, storeV, ytFr, assignV]

end

theorem trd_ev {H : AM.Heap} {a : AV} {b : List UInt8} {n : Int} (h : Byt H a b) (hb : b.length ≤ 90000000) :
    ∃ ob, Rw (.pr 12 ((rdTxt b n).1.map Va.pay)) 0 ob ∧ evT X 12 [a, .int .i64 n] H = some (.tup [.sl H.length 0 (rdTxt b n).1.length 0, .int .i64 (rdTxt b n).2], H ++ [some ob]) := by
  obtain ⟨c, p, xl, hp, hc, hx'⟩ := args_byt (C := X) (f := 12) (i := 0) rfl h (args_flat (i := 1) (a := .int .i64 n) rfl rfl (args_nil 2))
  obtain ⟨code, hcode, hr⟩ := trd_code c b n hc hb
  have hid := va_tags (rdTxt b n).1
  obtain ⟨ob, q1, q2⟩ := Ev1.newR (H := H) (n := (rdTxt b n).1.length) (es := 12) (l := (rdTxt b n).1.map Va.pay) (rest := [.int .i64 (rdTxt b n).2]) (evT_below X) Tryd.func12 hcode hx' (by simp [idsL, ids, hp.ids]) (by simp [gtag]) rfl rfl rfl hid.1 hid.2 (by
    obtain ⟨o, ⟨he, o1, g1, ob, q1, q2, q4, q5⟩, hrun⟩ := hr
    exact ⟨o, ⟨he, o1, g1, ob, by show some [getF o.fr 4, getF o.fr 5] = _; rw [q1, q2], q4, q5⟩, by rw [par12, coB hp]; exact hrun⟩)
  exact ⟨ob, q1, evT_eq q2⟩

end Go.Proofs.YtafdnpcamepbmaaDoor

/- Walks: the same values; a place among n. -/
namespace Go.Proofs.YtafdnpcamepbmaaDoor
open Go.AM
set_option linter.unusedSimpArgs false
set_option linter.unusedVariables false

theorem vvEqF (a3 a4 a5 a8 a9 a10 a11 a12 a13 a14 : Int) (a7 : Bool) (a6 : List UInt8) (xo yo : Operand) (H : AM.Heap) :
    eqV X H 38 (.agg (.pc [.int .i64 a3, .int .i64 a4, .int .u64 a5, .str a6, .bool a7, .int .i64 a8, .int .i64 a9, .int .i64 a10, .int .i64 a11, .int .i64 a12, .int .i64 a13, .int .i64 a14])) (.agg (.pc [.int .i64 a3, .int .i64 a4, .int .u64 a5, .str a6, .bool a7, .int .i64 a8, .int .i64 a9, .int .i64 a10, .int .i64 a11, .int .i64 a12, .int .i64 a13, .int .i64 a14])) xo yo =
      some (a3 == a3 && (a4 == a4 && (a5 == a5 && (a6 == a6 && ((a7 == a7 && (a8 == a8 && (a9 == a9 && (a10 == a10 && (a11 == a11 && (a12 == a12 && (a13 == a13 && (a14 == a14 && true)))))))) && true))))) := by kernel_rfl
theorem eqVv (p : Va) (xo yo : Operand) (H : AM.Heap) : eqV X H 38 (.agg p.pay) (.agg p.pay) xo yo = some true := by
  unfold Va.pay
  rw [vvEqF]
  simp

section
variable (c c2 : Nat) (l : List Va)

def spFr (i : Nat) : AM.Frame := [(0, .ro c (.pr 12 (l.map Va.pay)) 1), (1, .ro c2 (.pr 12 (l.map Va.pay)) 2), (5, .int .i64 (i : Nat))]

end

/-- a place among n -/
def pkI (x n : Int) : Int := if Int.tmod x n < 0 then Int.tmod x n + n else Int.tmod x n
theorem pk_in {x n : Int} (h : 0 < n) : 0 ≤ pkI x n ∧ pkI x n < n := by
  have h1 := Int.lt_tmod_of_pos x h
  have h2 := Int.tmod_lt_of_pos x h
  unfold pkI
  split <;> omega

end Go.Proofs.YtafdnpcamepbmaaDoor

/- Walks: the law RowTurned: its loop. -/
namespace Go.Proofs.YtafdnpcamepbmaaDoor
open Go.AM
set_option linter.unusedSimpArgs false
set_option linter.unusedVariables false

theorem zrT : ∀ {l : List Va} {ts : List Ty}, l.length = ts.length → tyR (zr l ts) = ts
  | [], [], _ => rfl
  | v :: l, t :: ts, h => by
    have := zrT (l := l) (ts := ts) (by simpa using h)
    unfold tyR zr at this ⊢
    rw [List.zipWith_cons_cons, List.map_cons, this]
theorem zrOk {l : List Va} {ts : List Ty} (hok : ∀ v ∈ l, v.okR) (h : ¬ (zr l ts).any Pm.bad = true) : OkR (zr l ts) := by
  intro p hp
  obtain ⟨h1, h2, h3⟩ := zr_mem hp
  have hb : p.bad = false := by
    cases hb : p.bad with
    | false => rfl
    | true => exact absurd (List.any_eq_true.2 ⟨p, hp, hb⟩) h
  unfold Pm.bad at hb
  rw [h3] at hb
  simp at hb
  exact ⟨h3, hb, hok _ h1⟩
theorem bnBle (l : List Pm) : (bnB l).length = 1 + (l.length + 9) / 8 + (restB l).length := by
  unfold bnB; rw [List.length_cons, List.length_append, bitsR_len]; omega

theorem chk_7 {v : Va} {t : Ty} (h : chkV v t = 0) (hk : v.k = 7) : v = { k := 7, t := v.t } := by
  rcases chk_ok h with rfl | h
  · simp at hk
  · unfold okVa okVk at h
    rw [if_neg (by omega), if_neg (by omega), if_neg (by omega), if_pos hk] at h
    simp only [Bool.and_eq_true, decide_eq_true_eq] at h
    exact h.2.1
theorem trn_7 {v : Va} {t : Ty} (h : chkV v t = 0) (hk : v.k = 7) : trnV v t = v := by
  have h1 := chk_7 h hk
  unfold trnV
  rw [if_neg (by omega)]
  have h2 : (vtX v t).1 = v.t := by
    unfold vtX
    rw [if_neg (by omega), if_neg (by omega), if_neg (by omega), if_neg (by omega), if_pos hk]
  rw [h2]; exact h1.symm

section
variable (d : Nat) (l : List Va) (z : List Va)

def lwFr (i : Nat) : AM.Frame := [(0, .ro d (.pr 12 (l.map Va.pay)) 1), (9, .sl 2 0 l.length 0), (11, .int .i64 (i : Nat))]

set_option maxRecDepth 100000 in
set_option maxHeartbeats 4000000 in
theorem lw17 (i : Nat) (v w : Va) (H : AM.Heap) (ob : AM.Obj) (hv : l[i]? = some v) (hz : z[i]? = some w) (h0 : v.k = 0 → w = v) (h7 : v.k = 7 → w = v) (hn : v.k ≠ 0 → w.k = 7) (ho : H[2]? = some (some ob)) (hw : Rw (.pr 12 (z.map Va.pay)) 0 ob) :
    ∃ code, ((Tryd.f4.body).bind (codeAt [1, 1, 1, 1, 1, 1, 1, 1, 1, 0, 1, 0, 0, 1, 0, 0, 0])) = some code ∧ Run X (evT X) 4 0 code (lwFr d l i ++ [(60, .bool true)]) H ⟨.normal, lwFr d l i ++ [(94, .bool false)], H⟩ := by
  refine ⟨_, rfl, ?_⟩
  obtain ⟨p, g, cap, zz, row, ids, tg⟩ := ob
  obtain ⟨q1, q2, q3, q4, q5⟩ := hw
  simp only at q1 q2 q3 q4 q5
  subst q1 q2 q3 q4 q5
  have hlt := at_lt hv
  have hzt := at_lt hz
  have hiI : (i : Int) < (l.length : Int) := by omega
  have hLl : (l.map Va.pay).length = l.length := List.length_map _
  have hrow : (l.map Va.pay)[i]? = some v.pay := by rw [List.getElem?_map, hv]; rfl
  have hrow2 : (z.map Va.pay)[i]? = some w.pay := by rw [List.getElem?_map, hz]; rfl
  unfold lwFr
  generalize l.map Va.pay = L at *
  generalize z.map Va.pay = Z at *
  generalize l.length = n at *
  by_cases k0 : v.k = 0
  · rw [h0 k0] at hrow2
    simp only [Va.pay] at hrow hrow2
    (refine ⟨0, ?_⟩; simp (maxSteps := 2000000) -implicitDefEqProofs [-getElem?_pos, List.getElem?_cons_zero, List.getElem?_cons_succ, go_sem, eqV, plen, loadV, storeV, ho, hiI, hlt, hLl, hrow, hrow2, k0, mkVa, retagL, retag, retagP, flatCells, splice, scalars, scalar])
  have kb : (v.k == 0) = false := by simpa using k0
  by_cases k7 : v.k = 7
  · have hE := fun xo yo => eqVv v xo yo H
    rw [h7 k7] at hrow2
    simp only [Va.pay] at hrow hrow2 hE
    rw [k7] at hrow hrow2 hE
    (refine ⟨0, ?_⟩; simp (maxSteps := 2000000) -implicitDefEqProofs [-getElem?_pos, List.getElem?_cons_zero, List.getElem?_cons_succ, go_sem, eqV, plen, loadV, storeV, -eqV, ho, hiI, hlt, hLl, hrow, hrow2, hE, k0, kb, k7, mkVa, retagL, retag, retagP, flatCells, splice, scalars, scalar])
  have kb7 : (v.k == 7) = false := by simpa using k7
  have hk7 := hn k0
  simp only [Va.pay] at hrow hrow2
  rw [hk7] at hrow2
  (refine ⟨0, ?_⟩; simp (maxSteps := 2000000) -implicitDefEqProofs [-getElem?_pos, List.getElem?_cons_zero, List.getElem?_cons_succ, go_sem, eqV, plen, loadV, storeV, ho, hiI, hlt, hLl, hrow, hrow2, k0, kb, k7, kb7, mkVa, retagL, retag, retagP, flatCells, splice, scalars, scalar])

end

end Go.Proofs.YtafdnpcamepbmaaDoor

/- Walks: the law RowTurned. -/
namespace Go.Proofs.YtafdnpcamepbmaaDoor
open Go.AM
set_option linter.unusedSimpArgs false
set_option linter.unusedVariables false

section
variable (d : Nat) (l : List Va) (e : Nat) (ts : List Ty)

set_option maxRecDepth 100000 in
set_option maxHeartbeats 4000000 in
theorem lw_loop (z : List Va) (H : AM.Heap) (ob : AM.Obj) (hn : l.length ≤ 60) (hzl : z.length = l.length) (hz : ∀ (i : Nat) v w, l[i]? = some v → z[i]? = some w → (v.k = 0 → w = v) ∧ (v.k = 7 → w = v) ∧ (v.k ≠ 0 → w.k = 7)) (ho : H[2]? = some (some ob)) (hw : Rw (.pr 12 (z.map Va.pay)) 0 ob) :
    ∃ code, ((Tryd.f4.body).bind (codeAt [1, 1, 1, 1, 1, 1, 1, 1, 1])) = some code ∧ Tells (Rets fun fr H => getF fr 4 = .bool true) X (evT X) 4 0 code [(0, .ro d (.pr 12 (l.map Va.pay)) 1), (9, .sl 2 0 l.length 0), (56, .bool false)] H := by
  refine ⟨_, rfl, ?_⟩
  have hLl : (l.map Va.pay).length = l.length := List.length_map _
  apply Tells.assoc
  apply Tells.seq (fr' := lwFr d l 0) (H' := H)
  · unfold lwFr
    generalize l.map Va.pay = L at *
    (refine ⟨0, ?_⟩; simp (maxSteps := 2000000) -implicitDefEqProofs [-getElem?_pos, List.getElem?_cons_zero, List.getElem?_cons_succ, go_sem, eqV, plen, loadV, storeV])
  apply Tells.blockThen (P := fun fr H' => fr = lwFr d l l.length ++ [(60, .bool false)] ∧ H' = H)
  · refine Tells.loopP (fun k fr H' => ∃ i, k = l.length - i ∧ i ≤ l.length ∧ fr = lwFr d l i ∧ H' = H) ?_ (k := l.length) ⟨0, rfl, by omega, rfl, rfl⟩
    rintro k fr H' ⟨i, rfl, hi, rfl, rfl⟩
    by_cases hin : i = l.length
    · subst hin
      refine Tells.of (o := ⟨.exit 0, lwFr d l l.length ++ [(60, .bool false)], H'⟩) ⟨0, ?_⟩ (.inr ⟨by simp, .inl ⟨rfl, rfl, rfl⟩⟩)
      unfold lwFr
      generalize l.map Va.pay = L at *
      simp (maxSteps := 2000000) -implicitDefEqProofs [-getElem?_pos, List.getElem?_cons_zero, List.getElem?_cons_succ, go_sem, eqV, plen, loadV, storeV, hLl]
    have hiI : (i : Int) < (l.length : Int) := by omega
    obtain ⟨v, hv⟩ : ∃ p, l[i]? = some p := ⟨_, List.getElem?_eq_getElem (show i < l.length by omega)⟩
    obtain ⟨w, hwz⟩ : ∃ p, z[i]? = some p := ⟨_, List.getElem?_eq_getElem (show i < z.length by omega)⟩
    obtain ⟨z0, z7, zn⟩ := hz i v w hv hwz
    have h17 := lw17 d l z i v w H' ob hv hwz z0 z7 zn ho hw
    have w1 : IntKind.i64.wrap ((i : Int) + 1) = ((i + 1 : Nat) : Int) := by rw [wrap_i64 (by omega) (by omega)]; omega
    refine Tells.of (o := ⟨.normal, lwFr d l (i + 1), H'⟩) ?_ (.inl ⟨rfl, l.length - (i + 1), by omega, i + 1, rfl, by omega, rfl, rfl⟩)
    apply Run.seq (fr' := lwFr d l i ++ [(60, .bool true)]) (H' := H')
    · apply Run.seq (fr' := lwFr d l i ++ [(60, .bool true)]) (H' := H')
      · unfold lwFr
        generalize l.map Va.pay = L at *
        (refine ⟨0, ?_⟩; simp (maxSteps := 2000000) -implicitDefEqProofs [-getElem?_pos, List.getElem?_cons_zero, List.getElem?_cons_succ, go_sem, eqV, plen, loadV, storeV, hiI, hLl])
      · exact condT (by simp [evalO, getF, lwFr]) ⟨0, rfl⟩
    apply Run.seq (fr' := lwFr d l i ++ [(94, .bool false)]) (H' := H')
    · apply Run.block (hne := by simp)
      apply Run.seq (piece (P := fun cd => Run X (evT X) _ 0 cd _ _ _) h17 _ rfl)
      exact condF (by simp [evalO, getF, lwFr]) ⟨0, rfl⟩
    · unfold lwFr
      generalize l.map Va.pay = L at *
      refine ⟨0, ?_⟩
      simp (maxSteps := 2000000) -implicitDefEqProofs [-getElem?_pos, List.getElem?_cons_zero, List.getElem?_cons_succ, go_sem, eqV, plen, loadV, storeV, w1]
  rintro fr H' ⟨rfl, rfl⟩
  refine Tells.of (o := ⟨.ret, [(4, .bool true)], H'⟩) ⟨0, ?_⟩ ⟨rfl, rfl⟩
  unfold lwFr
  generalize l.map Va.pay = L at *
  simp (maxSteps := 2000000) -implicitDefEqProofs [-getElem?_pos, List.getElem?_cons_zero, List.getElem?_cons_succ, go_sem, eqV, plen, loadV, storeV]

end

end Go.Proofs.YtafdnpcamepbmaaDoor

/- Walks: the law RowTurned: whole. -/
namespace Go.Proofs.YtafdnpcamepbmaaDoor
open Go.AM
set_option linter.unusedSimpArgs false
set_option linter.unusedVariables false

section
variable (d : Nat) (l : List Va) (e : Nat) (ts : List Ty)

set_option maxRecDepth 100000 in
set_option maxHeartbeats 8000000 in
theorem turned_code (hd : d = 0 → l = []) (he : e = 0 → ts = []) (hok : ∀ p ∈ l, p.okR) (hl : ∀ p ∈ l, p.t.length ≤ 1048576) (h256 : ∀ t ∈ ts, t.t < 256) : ∃ code, Tryd.f4.body = some code ∧
    Tells (Rets fun fr H => getF fr 4 = .bool true) X (evT X) 4 0 code [(0, .ro d (.pr 12 (l.map Va.pay)) 1), (1, .ro e (.pr 2 (ts.map Ty.pay)) 2)] [] := by
  refine ⟨_, rfl, ?_⟩
  have hL := fun H => lives_ev H
  have hVV : ∀ H, RoV H (.ro d (.pr 12 (l.map Va.pay)) 1) l := fun H => RoRow.ro fun h => by rw [hd h]; rfl
  have hTT : ∀ H, RoT H (.ro e (.pr 2 (ts.map Ty.pay)) 2) ts := fun H => RoRow.ro fun h => by rw [he h]; rfl
  have hS := fun H => small_ev (H := H) (hVV H) (hTT H) hl
  have hLl : (l.map Va.pay).length = l.length := List.length_map _
  apply Tells.seq (fr' := [(0, .ro d (.pr 12 (l.map Va.pay)) 1), (1, .ro e (.pr 2 (ts.map Ty.pay)) 2)]) (H' := [])
  · generalize l.map Va.pay = L at *
    generalize ts.map Ty.pay = T at *
    (refine ⟨0, ?_⟩; simp (maxSteps := 2000000) -implicitDefEqProofs [-getElem?_pos, List.getElem?_cons_zero, List.getElem?_cons_succ, go_sem, eqV, plen, loadV, storeV])
  apply Tells.seq (fr' := [(0, .ro d (.pr 12 (l.map Va.pay)) 1), (1, .ro e (.pr 2 (ts.map Ty.pay)) 2), (13, .bool false)]) (H' := [])
  · apply Run.seq (fr' := [(0, .ro d (.pr 12 (l.map Va.pay)) 1), (1, .ro e (.pr 2 (ts.map Ty.pay)) 2), (13, .bool false)]) (H' := [])
    · generalize l.map Va.pay = L at *
      generalize ts.map Ty.pay = T at *
      (refine ⟨0, ?_⟩; simp (maxSteps := 2000000) -implicitDefEqProofs [-getElem?_pos, List.getElem?_cons_zero, List.getElem?_cons_succ, go_sem, eqV, plen, loadV, storeV, hL, unV])
    · exact condF (by simp [evalO, getF]) ⟨0, rfl⟩
  cases hs : smR l ts with
  | false =>
    rw [hs] at hS
    refine Tells.of (o := ⟨.ret, [(4, .bool true)], []⟩) ⟨0, ?_⟩ ⟨rfl, rfl⟩
    generalize l.map Va.pay = L at *
    generalize ts.map Ty.pay = T at *
    simp (maxSteps := 2000000) -implicitDefEqProofs [-getElem?_pos, List.getElem?_cons_zero, List.getElem?_cons_succ, go_sem, eqV, plen, loadV, storeV, hS, unV]
  | true =>
  rw [hs] at hS
  obtain ⟨s1, s2, s3, s4⟩ := sm_rest hs
  apply Tells.seq (fr' := [(0, .ro d (.pr 12 (l.map Va.pay)) 1), (1, .ro e (.pr 2 (ts.map Ty.pay)) 2), (17, .bool false)]) (H' := [])
  · apply Run.seq (fr' := [(0, .ro d (.pr 12 (l.map Va.pay)) 1), (1, .ro e (.pr 2 (ts.map Ty.pay)) 2), (17, .bool false)]) (H' := [])
    · generalize l.map Va.pay = L at *
      generalize ts.map Ty.pay = T at *
      (refine ⟨0, ?_⟩; simp (maxSteps := 2000000) -implicitDefEqProofs [-getElem?_pos, List.getElem?_cons_zero, List.getElem?_cons_succ, go_sem, eqV, plen, loadV, storeV, hS, unV])
    · exact condF (by simp [evalO, getF]) ⟨0, rfl⟩
  obtain ⟨ob1, hw1, hA1⟩ := bapp_ev (H := []) (a := .ro 0 .pn 0) (b := []) Byt.nil (hVV _) (hTT _) (by simp) hok h256 (by omega) (by omega)
  simp only [List.length_nil, List.nil_append] at hA1
  by_cases hbd : (bnApp [] l ts).2 ≠ 0
  · have hbb : ((bnApp [] l ts).2 != 0) = true := by simpa using hbd
    apply Tells.seq (fr' := [(0, .ro d (.pr 12 (l.map Va.pay)) 1), (1, .ro e (.pr 2 (ts.map Ty.pay)) 2), (5, .sl 0 0 (bnApp [] l ts).1.length 0), (6, .int .i64 (bnApp [] l ts).2)]) (H' := [some ob1])
    · generalize l.map Va.pay = L at *
      generalize ts.map Ty.pay = T at *
      generalize bnApp [] l ts = r at *
      (refine ⟨0, ?_⟩; simp (maxSteps := 2000000) -implicitDefEqProofs [-getElem?_pos, List.getElem?_cons_zero, List.getElem?_cons_succ, go_sem, eqV, plen, loadV, storeV, hA1, assignV])
    refine Tells.of (o := ⟨.ret, [(4, .bool true)], [some ob1]⟩) ?_ ⟨rfl, rfl⟩
    apply Run.seq_out (hne := by simp)
    generalize l.map Va.pay = L at *
    generalize ts.map Ty.pay = T at *
    generalize bnApp [] l ts = r at *
    refine ⟨0, ?_⟩
    simp (maxSteps := 2000000) -implicitDefEqProofs [-getElem?_pos, List.getElem?_cons_zero, List.getElem?_cons_succ, go_sem, eqV, plen, loadV, storeV, hbb]
  have hlt : l.length = ts.length := by
    by_cases h : l.length = ts.length
    · exact h
    · exact absurd (show (bnApp [] l ts).2 ≠ 0 by unfold bnApp; rw [if_neg (by omega), if_pos h]; simp) hbd
  have hnb : ¬ (zr l ts).any Pm.bad = true := fun h => hbd (by unfold bnApp; rw [if_neg (by omega), if_neg (by omega), if_pos h]; simp)
  have hap : bnApp [] l ts = (bnB (zr l ts), 0) := by unfold bnApp; rw [if_neg (by omega), if_neg (by omega), if_neg hnb]; rfl
  have hokz := zrOk hok hnb
  have hzrl := zr_len hlt
  have hbl := bnBle (zr l ts)
  have hback := bn_back (l := zr l ts) (by omega) hokz []
  rw [List.append_nil, if_pos rfl, zrT hlt, show vaR (zr l ts) = l from zr_v hlt] at hback
  rw [hap] at hA1 hw1
  simp only at hA1 hw1
  generalize hN : bnB (zr l ts) = N at *
  have hNl : N.length ≤ 10000 := by omega
  apply Tells.seq (fr' := [(0, .ro d (.pr 12 (l.map Va.pay)) 1), (1, .ro e (.pr 2 (ts.map Ty.pay)) 2), (5, .sl 0 0 N.length 0), (6, .int .i64 0)]) (H' := [some ob1])
  · generalize l.map Va.pay = L at *
    generalize ts.map Ty.pay = T at *
    generalize N.length = n at *
    (refine ⟨0, ?_⟩; simp (maxSteps := 2000000) -implicitDefEqProofs [-getElem?_pos, List.getElem?_cons_zero, List.getElem?_cons_succ, go_sem, eqV, plen, loadV, storeV, hA1, assignV])
  apply Tells.seq (fr' := [(0, .ro d (.pr 12 (l.map Va.pay)) 1), (1, .ro e (.pr 2 (ts.map Ty.pay)) 2), (5, .sl 0 0 N.length 0), (25, .bool false)]) (H' := [some ob1])
  · apply Run.seq (fr' := [(0, .ro d (.pr 12 (l.map Va.pay)) 1), (1, .ro e (.pr 2 (ts.map Ty.pay)) 2), (5, .sl 0 0 N.length 0), (25, .bool false)]) (H' := [some ob1])
    · generalize l.map Va.pay = L at *
      generalize ts.map Ty.pay = T at *
      generalize N.length = n at *
      (refine ⟨0, ?_⟩; simp (maxSteps := 2000000) -implicitDefEqProofs [-getElem?_pos, List.getElem?_cons_zero, List.getElem?_cons_succ, go_sem, eqV, plen, loadV, storeV])
    · exact condF (by simp [evalO, getF]) ⟨0, rfl⟩
  have hsum := trn_sum l ts hok
  have hsv : sumV l ≤ 3000 := by
    unfold smR at hs
    simp only [Bool.and_eq_true, decide_eq_true_eq] at hs
    have := hs.2.2
    rwa [List.take_of_length_le (by omega)] at this
  obtain ⟨ob2, hw2, hA2⟩ := trn_ev (H := [some ob1]) (a := .sl 0 0 N.length 0) (A := .ro e (.pr 2 (ts.map Ty.pay)) 2) (b := N) (ts := ts) (Byt.whole rfl hw1) (hTT _) (by omega) h256 (by rw [hback]; exact hok) (by omega) (by rw [hback]; show (txR (List.zipWith trnV l ts)).length ≤ _; omega)
  have htd : trdB N ts = if ts.any bad45 then ([], 2) else txApp [] (List.zipWith trnV l ts) := by unfold trdB; rw [hback]; rw [if_neg (by simp)]
  have hzl : (List.zipWith trnV l ts).length = l.length := by rw [List.length_zipWith]; omega
  rw [htd] at hw2 hA2
  clear htd
  generalize hz : List.zipWith trnV l ts = z at *
  simp only [List.length_cons, List.length_nil, List.cons_append, List.nil_append] at hA2
  by_cases hg : (if ts.any bad45 then ([], 2) else txApp [] z : List UInt8 × Int).2 ≠ 0
  · have hv2 : (if ts.any bad45 then ([], 2) else txApp [] z : List UInt8 × Int) = ([], 2) := by
      split at hg
      · rename_i h; rw [if_pos h]
      · rename_i h; rw [if_neg h]
        unfold txApp at hg ⊢
        rw [if_neg (by omega)] at hg ⊢
        split at hg
        · rename_i h2; rw [if_pos h2]
        · exact absurd rfl hg
    rw [hv2] at hw2 hA2
    simp only [List.length_nil] at hw2 hA2
    apply Tells.seq (fr' := [(0, .ro d (.pr 12 (l.map Va.pay)) 1), (7, .sl 1 0 0 0), (8, .int .i64 2)]) (H' := [some ob1, some ob2])
    · generalize l.map Va.pay = L at *
      generalize ts.map Ty.pay = T at *
      generalize N.length = n at *
      (refine ⟨0, ?_⟩; simp (maxSteps := 2000000) -implicitDefEqProofs [-getElem?_pos, List.getElem?_cons_zero, List.getElem?_cons_succ, go_sem, eqV, plen, loadV, storeV, hA2, assignV])
    refine Tells.of (o := ⟨.ret, [(4, .bool true)], [some ob1, some ob2]⟩) ?_ ⟨rfl, rfl⟩
    apply Run.seq_out (hne := by simp)
    generalize l.map Va.pay = L at *
    have hgg := hw2.g
    refine ⟨0, ?_⟩
    simp (maxSteps := 2000000) -implicitDefEqProofs [-getElem?_pos, List.getElem?_cons_zero, List.getElem?_cons_succ, go_sem, eqV, plen, loadV, storeV, hgg]
  have hnt : ¬ ts.any bad45 = true := by
    intro h; rw [if_pos h] at hg; exact hg (by simp)
  rw [if_neg hnt] at hg hw2 hA2
  have hnk : ¬ (z.any fun v => decide (chkV v tyVS ≠ 0)) = true := by
    intro h
    apply hg
    unfold txApp; rw [if_neg (by omega), if_pos h]; simp
  have htx : txApp [] z = (txR z, 0) := by unfold txApp; rw [if_neg (by omega), if_neg hnk]; rfl
  rw [htx] at hw2 hA2
  simp only at hw2 hA2
  have hrz : (txR z).length ≤ 1000000 := by omega
  have hokT : ∀ v ∈ z, okTx v := fun v hv => ok_tx (by
    by_cases h : chkV v tyVS = 0
    · exact h
    · exact absurd (List.any_eq_true.2 ⟨v, hv, by simpa using h⟩) hnk)
  have htb := txt_back (l := z) (by omega) hokT []
  rw [List.append_nil, if_pos rfl, hzl] at htb
  generalize hM : txR z = M at *
  apply Tells.seq (fr' := [(0, .ro d (.pr 12 (l.map Va.pay)) 1), (7, .sl 1 0 M.length 0), (8, .int .i64 0)]) (H' := [some ob1, some ob2])
  · generalize l.map Va.pay = L at *
    generalize ts.map Ty.pay = T at *
    generalize N.length = n at *
    generalize M.length = m at *
    (refine ⟨0, ?_⟩; simp (maxSteps := 2000000) -implicitDefEqProofs [-getElem?_pos, List.getElem?_cons_zero, List.getElem?_cons_succ, go_sem, eqV, plen, loadV, storeV, hA2, assignV])
  apply Tells.seq (fr' := [(0, .ro d (.pr 12 (l.map Va.pay)) 1), (7, .sl 1 0 M.length 0), (8, .int .i64 0), (33, .bool false)]) (H' := [some ob1, some ob2])
  · apply Run.seq (fr' := [(0, .ro d (.pr 12 (l.map Va.pay)) 1), (7, .sl 1 0 M.length 0), (8, .int .i64 0), (33, .bool false)]) (H' := [some ob1, some ob2])
    · generalize l.map Va.pay = L at *
      generalize M.length = m at *
      (refine ⟨0, ?_⟩; simp (maxSteps := 2000000) -implicitDefEqProofs [-getElem?_pos, List.getElem?_cons_zero, List.getElem?_cons_succ, go_sem, eqV, plen, loadV, storeV])
    · exact condF (by simp [evalO, getF]) ⟨0, rfl⟩
  obtain ⟨ob3, hw3, hA3⟩ := trd_ev (H := [some ob1, some ob2]) (a := .sl 1 0 M.length 0) (b := M) (n := (l.length : Nat)) (Byt.whole (o := 1) rfl hw2) (by omega)
  rw [htb] at hw3 hA3
  simp only [List.length_cons, List.length_nil, List.cons_append, List.nil_append, hzl] at hw3 hA3
  apply Tells.seq (fr' := [(0, .ro d (.pr 12 (l.map Va.pay)) 1), (9, .sl 2 0 l.length 0), (10, .int .i64 0)]) (H' := [some ob1, some ob2, some ob3])
  · generalize l.map Va.pay = L at *
    generalize M.length = m at *
    generalize l.length = n at *
    (refine ⟨0, ?_⟩; simp (maxSteps := 2000000) -implicitDefEqProofs [-getElem?_pos, List.getElem?_cons_zero, List.getElem?_cons_succ, go_sem, eqV, plen, loadV, storeV, hLl, hA3, assignV])
  apply Tells.seq (fr' := [(0, .ro d (.pr 12 (l.map Va.pay)) 1), (9, .sl 2 0 l.length 0), (56, .bool false)]) (H' := [some ob1, some ob2, some ob3])
  · apply Run.seq (fr' := [(0, .ro d (.pr 12 (l.map Va.pay)) 1), (9, .sl 2 0 l.length 0), (56, .bool false)]) (H' := [some ob1, some ob2, some ob3])
    · generalize l.map Va.pay = L at *
      generalize l.length = n at *
      have hgg := hw3.g
      (refine ⟨0, ?_⟩; simp (maxSteps := 2000000) -implicitDefEqProofs [-getElem?_pos, List.getElem?_cons_zero, List.getElem?_cons_succ, go_sem, eqV, plen, loadV, storeV, hLl, hgg])
    · exact condF (by simp [evalO, getF]) ⟨0, rfl⟩
  refine piece (lw_loop d l z [some ob1, some ob2, some ob3] ob3 s1 hzl ?_ rfl hw3) _ rfl
  intro i v w hv hwz
  obtain ⟨t, ht⟩ : ∃ t, ts[i]? = some t := ⟨_, List.getElem?_eq_getElem (show i < ts.length by have := at_lt hv; omega)⟩
  have hck : chkV v t = 0 := (hokz ⟨t, false, v⟩ (List.mem_of_getElem? (zr_at hv ht))).2.1
  have hwe : w = trnV v t := by
    rw [← hz, List.getElem?_zipWith, hv, ht] at hwz
    exact (Option.some.inj hwz).symm
  subst hwe
  refine ⟨fun h => by unfold trnV; rw [if_pos h], fun h => trn_7 hck h, fun h => by unfold trnV; rw [if_neg h]⟩

end

end Go.Proofs.YtafdnpcamepbmaaDoor

/- Arguments of laws: values, types, parameters; rows of them. -/
namespace Go.Proofs.YtafdnpcamepbmaaDoor
open Go.AM
set_option linter.unusedVariables false

/-- a value as it may come -/
def Va.okA (v : Va) : Prop := v.b < 18446744073709551616 ∧ -9223372036854775808 ≤ v.i ∧ v.i < 9223372036854775808

theorem row_va {r : List AV} {cs : List Value} (h : Cells [.i .i64, .i .i64, .i .u64, .s, .b, .i .i64, .i .i64, .i .i64, .i .i64, .i .i64, .i .i64, .i .i64] r cs) : ∃ p : Va, AV.pc r = p.pay ∧ p.okA ∧ AV.str p.t ∈ r := by
  rcases h with _ | ⟨h0, h⟩
  rcases h with _ | ⟨h1, h⟩
  rcases h with _ | ⟨h2, h⟩
  rcases h with _ | ⟨h3, h⟩
  rcases h with _ | ⟨h4, h⟩
  rcases h with _ | ⟨h5, h⟩
  rcases h with _ | ⟨h6, h⟩
  rcases h with _ | ⟨h7, h⟩
  rcases h with _ | ⟨h8, h⟩
  rcases h with _ | ⟨h9, h⟩
  rcases h with _ | ⟨h10, h⟩
  rcases h with _ | ⟨h11, h⟩
  cases h
  obtain ⟨x0, rfl, _, w0⟩ := h0
  have w0 := AM.i64_wf w0
  obtain ⟨x1, rfl, _, w1⟩ := h1
  have w1 := AM.i64_wf w1
  obtain ⟨x2, rfl, _, w2⟩ := h2
  obtain ⟨x2, rfl, b2⟩ := AM.nat_wf rfl w2
  obtain ⟨x3, rfl, _, _⟩ := h3
  obtain ⟨x4, rfl, _⟩ := h4
  obtain ⟨x5, rfl, _, w5⟩ := h5
  have w5 := AM.i64_wf w5
  obtain ⟨x6, rfl, _, w6⟩ := h6
  have w6 := AM.i64_wf w6
  obtain ⟨x7, rfl, _, w7⟩ := h7
  have w7 := AM.i64_wf w7
  obtain ⟨x8, rfl, _, w8⟩ := h8
  have w8 := AM.i64_wf w8
  obtain ⟨x9, rfl, _, w9⟩ := h9
  have w9 := AM.i64_wf w9
  obtain ⟨x10, rfl, _, w10⟩ := h10
  have w10 := AM.i64_wf w10
  obtain ⟨x11, rfl, _, w11⟩ := h11
  have w11 := AM.i64_wf w11
  exact ⟨⟨x0, x1, x2, x3, ⟨x4, x5, x6, x7, x8, x9, x10, x11⟩⟩, rfl, ⟨b2, w1.1, Int.lt_of_le_of_lt w1.2 (by decide)⟩, by simp⟩

theorem lv_va : leaves Tryd.prog 6 38 = some [.i .i64, .i .i64, .i .u64, .s, .b, .i .i64, .i .i64, .i .i64, .i .i64, .i .i64, .i .i64, .i .i64] := by kernel_rfl

set_option maxRecDepth 100000 in
/-- a row of them -/
theorem arg_vas {H : Type} {enc : TypeId × Value → H} {W : World} {base : Nat} {v : Value} {d : DataW H} {ps : List MemPlace} (hval : Value.okWide Tryd.prog W .any base 25 v) (hd : DataW.Trod enc Tryd.prog W 0 (fun _ => true) true 25 v d ps) :
    ∃ (c : Nat) (l : List Va), (∀ p ∈ l, p.okA ∧ AM.StrIn d p.t) ∧ (c = 0 → l = []) ∧ l.length ≤ maxLen ∧ AM.VRel (AM.start W) (AM.T0 W.heap.size) (.ro c (.pr 12 (l.map Va.pay)) 1) v := by
  obtain ⟨c, rows, h1, h2, h3, h4⟩ := AM.arg_rows (show Tryd.prog.underlying 25 = some (.slice 38) by kernel_rfl) lv_va (by kernel_rfl) (by simp) hval hd
  obtain ⟨l, q1, q2, q3⟩ := AM.rows_as AV.pc Va.pay (Q := fun p => p.okA ∧ AM.StrIn d p.t) (rows := rows) (fun r hr => by
    obtain ⟨⟨cs, h⟩, hs⟩ := h1 r hr
    obtain ⟨p, e, h5⟩ := row_va h
    exact ⟨p, e, h5.1, hs _ h5.2⟩)
  refine ⟨c, l, q3, fun h => ?_, by rw [q2]; exact h3, ?_⟩
  · have := h2 h
    subst this
    exact List.eq_nil_of_length_eq_zero q2
  · rw [← q1]
    exact h4

theorem row_ty {r : List AV} {cs : List Value} (h : Cells [.i .u8, .b] r cs) : ∃ p : Ty, AV.pc r = p.pay ∧ p.t < 256 := by
  rcases h with _ | ⟨h0, h⟩
  rcases h with _ | ⟨h1, h⟩
  cases h
  obtain ⟨x0, rfl, _, w0⟩ := h0
  obtain ⟨x0, rfl, b0⟩ := AM.nat_wf rfl w0
  obtain ⟨x1, rfl, _⟩ := h1
  exact ⟨⟨x0, x1⟩, rfl, b0⟩

theorem lv_ty : leaves Tryd.prog 6 23 = some [.i .u8, .b] := by kernel_rfl

set_option maxRecDepth 100000 in
/-- a row of them -/
theorem arg_tys {H : Type} {enc : TypeId × Value → H} {W : World} {base : Nat} {v : Value} {d : DataW H} {ps : List MemPlace} (hval : Value.okWide Tryd.prog W .any base 24 v) (hd : DataW.Trod enc Tryd.prog W 0 (fun _ => true) true 24 v d ps) :
    ∃ (c : Nat) (l : List Ty), (∀ p ∈ l, p.t < 256) ∧ (c = 0 → l = []) ∧ l.length ≤ maxLen ∧ AM.VRel (AM.start W) (AM.T0 W.heap.size) (.ro c (.pr 2 (l.map Ty.pay)) 1) v := by
  obtain ⟨c, rows, h1, h2, h3, h4⟩ := AM.arg_rows (show Tryd.prog.underlying 24 = some (.slice 23) by kernel_rfl) lv_ty (by kernel_rfl) (by simp) hval hd
  obtain ⟨l, q1, q2, q3⟩ := AM.rows_as AV.pc Ty.pay (Q := fun p => p.t < 256) (rows := rows) (fun r hr => by
    obtain ⟨⟨cs, h⟩, hs⟩ := h1 r hr
    obtain ⟨p, e, h5⟩ := row_ty h
    exact ⟨p, e, h5⟩)
  refine ⟨c, l, q3, fun h => ?_, by rw [q2]; exact h3, ?_⟩
  · have := h2 h
    subst this
    exact List.eq_nil_of_length_eq_zero q2
  · rw [← q1]
    exact h4

end Go.Proofs.YtafdnpcamepbmaaDoor
