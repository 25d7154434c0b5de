/- R8 to B5: texts of this claim, one behind the other; what each shows stands at its head. -/
import Derived.Test.YtbmddnokokoofaaAm4
import Derived.Test.YtbmddnokokoofaaMg5
/- Walks: parameters read: their types. -/
namespace Go.Proofs.Ytbmddnokokoofaa
open Go.AM
set_option linter.unusedSimpArgs false
set_option linter.unusedVariables false

theorem slTy {ct t n : Nat} {l : List AV} (hn : n ≤ l.length) (H : AM.Heap) : sliceV X H 43 (.ro ct (.pr 2 l) t) none (some (.int .i64 (n : Nat))) = some (.ro (if ct = 0 then 0 else 2) (.pr 2 (l.take n)) t) := by
  have hnl : (n : Int) ≤ (l.length : Int) := by omega
  have hT : und X 43 = .slice 27 := by simp
  have hs : sizeT X 27 = 2 := by simp
  simp [sliceV, bound, plen, pesz, psub, hnl, hn, hT, hs]

theorem tyF_len (b : List UInt8) : ∀ n i, tyF b n i = 0 → 0 < n → 2 * (i + n) ≤ b.length
  | 0, i, _, h => by omega
  | n + 1, i, h, _ => by
    rw [tyF] at h
    by_cases he : tyE b i = 0
    · rw [if_neg (by simpa using he)] at h
      cases n with
      | zero =>
        unfold tyE at he
        split at he
        · cases he
        · split at he
          · cases he
          · split at he
            · cases he
            · omega
      | succ n => have := tyF_len b (n + 1) (i + 1) h (by omega); omega
    · rw [if_pos he] at h; exact absurd h he

section
variable (c : Nat) (r : List UInt8) (ts : List Ty) (ct tt fi : Nat)

/-- a round's frame -/
def pkFr (i : Nat) : AM.Frame := [(2, .ro ct (.pr 2 (ts.map Ty.pay)) tt), (8, .sl 2 0 0 0), (11, .fn 22 [.ptr 1 0 0 0]), (13, .fn 23 [.ptr 0 0 0 0]), (15, .ro c (.pb r) 1), (16, .int .u8 (fi : Nat)), (85, .ro ct (.pr 2 (ts.map Ty.pay)) tt), (86, .int .i64 (ts.length : Nat)), (87, .int .i64 (i : Nat))]

set_option maxRecDepth 100000 in
set_option maxHeartbeats 4000000 in
theorem pk_round (i : Nat) (H : AM.Heap) (t : Ty) (hn : ts.length ≤ 65535) (ht : ts[i]? = some t) (htt : t.t < 256) :
    ∃ code, ((Try.f9.body).bind (codeAt [1, 1, 1, 1, 1, 1, 1, 1, 1, 1, 1, 1, 0, 1, 0, 1, 0, 1, 1, 1, 0, 0])) = some code ∧
    Tells (fun o => (kn t.t = true ∧ o.ex = .normal ∧ o.fr = pkFr c r ts ct tt fi (i + 1) ∧ o.H = H ++ [some (tyO t)]) ∨ (kn t.t = false ∧ prE 5 o)) X (evT X) 9 0 code (pkFr c r ts ct tt fi i) H := by
  refine ⟨_, rfl, ?_⟩
  have hlt := at_lt ht
  have hiI : (i : Int) < (ts.length : Int) := by omega
  have hrow : (ts.map Ty.pay)[i]? = some (.pc [.int .u8 (t.t : Nat), .bool t.u]) := by rw [List.getElem?_map, ht]; rfl
  have hL : (ts.map Ty.pay).length = ts.length := List.length_map _
  have hnew : ∀ x : Option AM.Obj, (H ++ [x])[H.length]? = some x := fun x => by simp
  have hnew2 : (H ++ [some (tyO t), some nilP])[H.length + 1]? = some (some nilP) := by simp
  have w1 : IntKind.i64.wrap ((i : Int) + 1) = ((i + 1 : Nat) : Int) := by rw [wrap_i64 (by omega) (by omega)]; omega
  have hK := known_ev htt (H ++ [some (tyO t)])
  unfold pkFr
  generalize ts.map Ty.pay = L at *
  simp only [tyO, Ty.pay] at hK
  cases hk : kn t.t with
  | true =>
    rw [hk] at hK
    refine Tells.of (o := ⟨.normal, _, H ++ [some (tyO t)]⟩) ⟨0, ?_⟩ (.inl ⟨rfl, rfl, rfl, rfl⟩)
    simp (maxSteps := 2000000) -implicitDefEqProofs [-getElem?_pos, List.getElem?_cons_zero, List.getElem?_cons_succ, go_sem, eqV, plen, loadV, storeV, tyO, Ty.pay, mkTy, hlt, hiI, hL, hrow, hnew, w1, hK, retagL, retag, retagP, flatCells, splice, scalars, scalar]
  | false =>
    rw [hk] at hK
    refine Tells.of (o := ⟨.ret, [(8, .sl (H.length + 1) 0 0 0), (9, .bool false), (10, .int .i64 5)], H ++ [some (tyO t), some nilP]⟩) ⟨0, ?_⟩ (.inr ⟨rfl, by decide, rfl, H.length + 1, rfl, rfl, rfl, hnew2⟩)
    simp (maxSteps := 2000000) -implicitDefEqProofs [-getElem?_pos, List.getElem?_cons_zero, List.getElem?_cons_succ, go_sem, eqV, plen, loadV, storeV, tyO, Ty.pay, mkTy, hlt, hiI, hL, hrow, hnew, w1, hK, assignV, emP, retagL, retag, retagP, flatCells, splice, scalars, scalar]

set_option maxRecDepth 100000 in
theorem pk_loop (H0 : AM.Heap) (hn : ts.length ≤ 65535) (htt : ∀ t ∈ ts, t.t < 256) :
    ∃ code, ((Try.f9.body).bind (codeAt [1, 1, 1, 1, 1, 1, 1, 1, 1, 1, 1, 1, 0, 1, 0, 1, 0, 1, 1, 1])) = some code ∧
    Tells (Or2 (fun fr H => ts.any (fun t => !kn t.t) = false ∧ fr = pkFr c r ts ct tt fi ts.length ++ [(88, .bool false)] ∧ ∃ ex, H = H0 ++ ex) (fun o => ts.any (fun t => !kn t.t) = true ∧ prE 5 o)) X (evT X) 9 0 code (pkFr c r ts ct tt fi 0) H0 := by
  refine ⟨_, rfl, ?_⟩
  apply (Tells.blockOr (Q := fun o => ts.any (fun t => !kn t.t) = true ∧ prE 5 o))
  refine Tells.loopP (fun k fr H => ∃ i, k = ts.length - i ∧ i ≤ ts.length ∧ fr = pkFr c r ts ct tt fi i ∧ (∃ ex, H = H0 ++ ex) ∧ ∀ j t, j < i → ts[j]? = some t → kn t.t = true) ?_ (k := ts.length) ⟨0, rfl, by omega, rfl, ⟨[], by simp⟩, fun j t h => absurd h (by omega)⟩
  rintro k fr H ⟨i, rfl, hi, rfl, ⟨ex, rfl⟩, hall⟩
  by_cases hin : i = ts.length
  · subst hin
    have hany : ts.any (fun t => !kn t.t) = false := by
      rw [List.any_eq_false]
      intro t ht
      obtain ⟨j, hj, rfl⟩ := List.mem_iff_getElem.1 ht
      rw [hall j _ hj (List.getElem?_eq_getElem hj)]; simp
    refine Tells.of (o := ⟨.exit 3, pkFr c r ts ct tt fi ts.length ++ [(88, .bool false)], H0 ++ ex⟩) ⟨0, ?_⟩ (.inr ⟨by simp, .inl ⟨rfl, hany, rfl, ex, rfl⟩⟩)
    simp (maxSteps := 2000000) -implicitDefEqProofs [-getElem?_pos, List.getElem?_cons_zero, List.getElem?_cons_succ, go_sem, eqV, plen, loadV, storeV, pkFr]
  have hlt : i < ts.length := by omega
  obtain ⟨t, ht⟩ : ∃ t, ts[i]? = some t := ⟨_, List.getElem?_eq_getElem hlt⟩
  refine (piece (pk_round c r ts ct tt fi i (H0 ++ ex) t hn ht (htt t (List.mem_of_getElem? ht))) _ rfl).mono ?_
  rintro o (⟨h1, h2, h3, h4⟩ | ⟨h1, h2⟩)
  · refine .inl ⟨h2, ts.length - (i + 1), by omega, i + 1, rfl, by omega, h3, ⟨ex ++ [some (tyO t)], by rw [h4, List.append_assoc]⟩, fun j t' hj ht' => ?_⟩
    by_cases hji : j = i
    · subst hji; rw [ht] at ht'; obtain rfl := Option.some.inj ht'; exact h1
    · exact hall j t' (by omega) ht'
  · exact .inr ⟨by rw [h2.2.1]; simp, .inr ⟨h2.2.1, List.any_eq_true.2 ⟨t, List.mem_of_getElem? ht, by rw [h1]; rfl⟩, h2⟩⟩

end

end Go.Proofs.Ytbmddnokokoofaa

/- Walks: parameters read: behind the bits. -/
namespace Go.Proofs.Ytbmddnokokoofaa
open Go.AM
set_option linter.unusedSimpArgs false
set_option linter.unusedVariables false

/-- what is told behind the bits -/
def rdMid (b : List UInt8) (m : Nat) (ts : List Ty) (g : List Bool) (r : List UInt8) : List Pm × Bool × Int :=
  match r with
  | [] => ([], false, 4)
  | y :: r =>
    if y.toNat = 0 then (if ts.length < m then ([], false, 5) else if (ts.take m).any (fun t => !kn t.t) then ([], false, 5) else prZ 0 (prF b g (ts.take m) m 0 [] r))
    else if y.toNat = 1 then (if (tyR r m).2 ≠ 0 then ([], false, (tyR r m).2) else prZ 1 (prF b g (tyR r m).1 m 0 [] (r.drop (2 * m))))
    else ([], false, 5)

theorem rdPar_mid (b : List UInt8) (m : Nat) (ts : List Ty) (g : List Bool) (h1 : 1 ≤ m) (h2 : m ≤ 65535) : rdPar b (m : Nat) ts g = if b.length < (m + 7) / 8 then ([], false, 4) else
      if (List.range (8 * ((m + 7) / 8))).any (bxB b g m) then ([], false, 5) else rdMid b m ts g (b.drop ((m + 7) / 8)) := by
  unfold rdPar
  rw [if_neg (by omega), if_neg (by omega)]
  simp only [Int.toNat_natCast]
  rfl

section
variable (c : Nat) (b : List UInt8) (ct : Nat) (ts : List Ty) (cg : Nat) (g : List Bool) (m t1 : Nat)

def pmFr (r : List UInt8) (tl : AM.Frame) : AM.Frame := [(1, .int .i64 (m : Nat)), (2, .ro ct (.pr 2 (ts.map Ty.pay)) 3), (8, .sl 2 0 0 0), (11, .fn 22 [.ptr 1 0 0 0]), (13, .fn 23 [.ptr 0 0 0 0]), (15, .ro c (.pb r) 1)] ++ tl

set_option maxRecDepth 100000 in
set_option maxHeartbeats 4000000 in
theorem pr_kno (r : List UInt8) (hc : c ≠ 0) (hct : ct = 0 → ts = []) (h1 : 1 ≤ m) (hm : m ≤ 65535) (hb : m ≤ 8 * b.length) (htt : ∀ t ∈ ts, t.t < 256) (hr : r.length ≤ 90000000) :
    ∃ code, ((Try.f9.body).bind (codeAt [1, 1, 1, 1, 1, 1, 1, 1, 1, 1, 1, 1])) = some code ∧ Tells (Rets (PrZ (if ts.length < m then ([], false, 5) else if (ts.take m).any (fun t => !kn t.t) then ([], false, 5) else prZ 0 (prF b g (ts.take m) m 0 [] r)))) X (evT X) 9 0 code (pmFr c ct ts m r [(16, .int .u8 0)]) (pbHp c b cg g 1 t1) := by
  refine ⟨_, rfl, ?_⟩
  apply Tells.assoc
  apply Tells.seq (fr' := pmFr c ct ts m r [(16, .int .u8 0), (75, .int .u8 0)]) (H' := pbHp c b cg g 1 t1)
  · unfold pmFr pbHp
    generalize ts.map Ty.pay = L at *
    generalize g.map AV.bool = G at *
    (refine ⟨0, ?_⟩; simp (maxSteps := 2000000) -implicitDefEqProofs [-getElem?_pos, List.getElem?_cons_zero, List.getElem?_cons_succ, go_sem, eqV, plen, loadV, storeV, roB])
  have hL : (ts.map Ty.pay).length = ts.length := List.length_map _
  have hbad : ∀ {o : AM.Out} {e : Int} {x : List Pm × Bool × Int}, prE e o → x = ([], false, e) → Rets (PrZ x) o := by
    rintro o e x ⟨k1, k2, j, k3, k4, k5, k6⟩ h
    rw [h]
    exact ⟨k2, PrZ.bad k3 k4 k5 k6⟩
  by_cases hlt : ts.length < m
  · rw [if_pos hlt]
    have hltI : (ts.length : Int) < (m : Int) := by omega
    refine Tells.of (o := ⟨.ret, [(8, .sl 3 0 0 0), (9, .bool false), (10, .int .i64 5)], [some (roB c (.pb b) 1 1), some (roB cg (.pc (g.map .bool)) 4 t1), some nilP, some nilP]⟩) ?_ (hbad ⟨by decide, rfl, 3, rfl, rfl, rfl, rfl⟩ rfl)
    apply Run.seq_out (hne := by simp)
    unfold pmFr pbHp
    generalize ts.map Ty.pay = L at *
    generalize g.map AV.bool = G at *
    refine ⟨0, ?_⟩
    simp (maxSteps := 2000000) -implicitDefEqProofs [-getElem?_pos, List.getElem?_cons_zero, List.getElem?_cons_succ, go_sem, eqV, plen, loadV, storeV, roB, hL, hltI, assignV, emP]
  rw [if_neg hlt]
  have hltI : ¬ (ts.length : Int) < (m : Int) := by omega
  have htl : (ts.take m).length = m := by rw [List.length_take]; omega
  have htt2 : ∀ t ∈ ts.take m, t.t < 256 := fun t h => htt t (List.mem_of_mem_take h)
  have hct2 : (if ct = 0 then 0 else 2) = 2 := by
    rw [if_neg]
    intro h; have := hct h; subst this; simp at hlt; omega
  have hsl := fun H => slTy (ct := ct) (t := 3) (n := m) (l := ts.map Ty.pay) (by rw [hL]; omega) H
  rw [hct2, ← List.map_take] at hsl
  apply Tells.or (P := fun fr H => (ts.take m).any (fun t => !kn t.t) = false ∧ fr = pkFr c r (ts.take m) 2 3 0 m ++ [(88, .bool false)] ∧ ∃ ex, H = pbHp c b cg g 1 t1 ++ ex)
  case h' =>
    rintro fr H ⟨hany, rfl, ex, rfl⟩
    rw [if_neg (by rw [hany]; simp)]
    have hh : PrHp c b cg g (ts.take m) (.ro 2 (.pr 2 ((ts.take m).map Ty.pay)) 3) (pbHp c b cg g 1 t1 ++ ex) [] 0 := ⟨rfl, ⟨t1, rfl⟩, ⟨nilP, rfl, nilP_rw⟩, .inl ⟨2, 3, rfl⟩⟩
    have := piece (pr_tail c b cg g (ts.take m) 0 (.ro 2 (.pr 2 ((ts.take m).map Ty.pay)) 3) r _ [(85, .ro 2 (.pr 2 ((ts.take m).map Ty.pay)) 3), (86, .int .i64 (m : Nat)), (87, .int .i64 (m : Nat)), (88, .bool false)] hc (by omega) (by omega) htt2 hr (.inl rfl) hh (.inr ⟨_, _, _, rfl⟩)) _ rfl
    rw [htl] at this
    have hfe : pkFr c r (ts.take m) 2 3 0 m ++ [(88, .bool false)] = ([(2, .ro 2 (.pr 2 ((ts.take m).map Ty.pay)) 3), (8, .sl 2 0 0 0), (11, .fn 22 [.ptr 1 0 0 0]), (13, .fn 23 [.ptr 0 0 0 0]), (15, .ro c (.pb r) 1), (16, .int .u8 ((0 : Nat) : Int))] ++ [(85, .ro 2 (.pr 2 ((ts.take m).map Ty.pay)) 3), (86, .int .i64 (m : Nat)), (87, .int .i64 (m : Nat)), (88, .bool false)]) := by
      unfold pkFr
      rw [htl]; rfl
    rw [hfe]
    exact this
  case h =>
  apply Tells.blkOr
  case hq => rintro o ⟨h, _⟩; rw [h]; simp
  apply Tells.seq (fr' := pmFr c ct ts m r [(16, .int .u8 0), (75, .int .u8 0), (76, .bool true)]) (H' := pbHp c b cg g 1 t1)
  · unfold pmFr pbHp
    generalize ts.map Ty.pay = L at *
    generalize g.map AV.bool = G at *
    (refine ⟨0, ?_⟩; simp (maxSteps := 2000000) -implicitDefEqProofs [-getElem?_pos, List.getElem?_cons_zero, List.getElem?_cons_succ, go_sem, eqV, plen, loadV, storeV, roB])
  refine Tells.condT (by simp [evalO, getF, pmFr]) ?_
  apply Tells.assoc
  apply Tells.seq (fr' := pmFr c ct ts m r [(16, .int .u8 0), (81, .bool false)]) (H' := pbHp c b cg g 1 t1)
  · unfold pmFr pbHp
    generalize ts.map Ty.pay = L at *
    generalize g.map AV.bool = G at *
    (refine ⟨0, ?_⟩; simp (maxSteps := 2000000) -implicitDefEqProofs [-getElem?_pos, List.getElem?_cons_zero, List.getElem?_cons_succ, go_sem, eqV, plen, loadV, storeV, roB, hL, hltI, hlt])
  apply Tells.seq (fr' := pmFr c ct ts m r [(16, .int .u8 0), (81, .bool false)]) (H' := pbHp c b cg g 1 t1)
  · exact condF (by simp [evalO, getF, pmFr]) ⟨0, rfl⟩
  apply Tells.seq (fr' := [(2, .ro 2 (.pr 2 ((ts.take m).map Ty.pay)) 3), (8, .sl 2 0 0 0), (11, .fn 22 [.ptr 1 0 0 0]), (13, .fn 23 [.ptr 0 0 0 0]), (15, .ro c (.pb r) 1), (16, .int .u8 0)]) (H' := pbHp c b cg g 1 t1)
  · unfold pmFr pbHp
    simp only [List.map_take] at hsl ⊢
    generalize ts.map Ty.pay = L at *
    generalize g.map AV.bool = G at *
    (refine ⟨0, ?_⟩; simp (maxSteps := 2000000) -implicitDefEqProofs [-getElem?_pos, List.getElem?_cons_zero, List.getElem?_cons_succ, go_sem, eqV, plen, loadV, storeV, roB, hsl, assignV])
  apply Tells.seq (fr' := pkFr c r (ts.take m) 2 3 0 0) (H' := pbHp c b cg g 1 t1)
  · have hL2 : ((ts.take m).map Ty.pay).length = m := by rw [List.length_map, htl]
    unfold pkFr pbHp
    rw [htl]
    generalize (ts.take m).map Ty.pay = L at *
    generalize g.map AV.bool = G at *
    (refine ⟨0, ?_⟩; simp (maxSteps := 2000000) -implicitDefEqProofs [-getElem?_pos, List.getElem?_cons_zero, List.getElem?_cons_succ, go_sem, eqV, plen, loadV, storeV, roB, hL2])
  have := piece (pk_loop c r (ts.take m) 2 3 0 (pbHp c b cg g 1 t1) (by omega) htt2) _ rfl
  rw [htl] at this
  refine this.mono ?_
  rintro o (h | ⟨h1, h2, h3⟩)
  · exact .inl h
  · exact .inr ⟨h1, hbad h3 (if_pos h2)⟩

set_option maxRecDepth 100000 in
set_option maxHeartbeats 4000000 in
theorem pr_told (r : List UInt8) (hc : c ≠ 0) (h1 : 1 ≤ m) (hm : m ≤ 65535) (hb : m ≤ 8 * b.length) (hr : r.length ≤ 90000000) :
    ∃ code, ((Try.f9.body).bind (codeAt [1, 1, 1, 1, 1, 1, 1, 1, 1, 1, 1, 1])) = some code ∧ Tells (Rets (PrZ (if (tyR r m).2 ≠ 0 then ([], false, (tyR r m).2) else prZ 1 (prF b g (tyR r m).1 m 0 [] (r.drop (2 * m)))))) X (evT X) 9 0 code (pmFr c ct ts m r [(16, .int .u8 1)]) (pbHp c b cg g 1 t1) := by
  refine ⟨_, rfl, ?_⟩
  have hbad : ∀ {o : AM.Out} {e : Int} {x : List Pm × Bool × Int}, prE e o → x = ([], false, e) → Rets (PrZ x) o := by
    rintro o e x ⟨k1, k2, j, k3, k4, k5, k6⟩ h
    rw [h]
    exact ⟨k2, PrZ.bad k3 k4 k5 k6⟩
  obtain ⟨ob, hw, hT⟩ := td_ev (H := pbHp c b cg g 1 t1) (a := .ro c (.pb r) 1) (b := r) (n := m) (Byt.ro (.inl rfl) (fun h => absurd h hc)) hm
  have hTl : (tyR r m).2 = 0 → (tyR r m).1 = tysL r m ∧ 2 * m ≤ r.length := by
    intro h
    unfold tyR at h ⊢
    by_cases hf : tyF r m 0 ≠ 0
    · rw [if_pos hf] at h; exact absurd h hf
    · rw [if_neg hf]
      have := tyF_len r m 0 (by simpa using hf) h1
      exact ⟨rfl, by omega⟩
  have htt : ∀ t ∈ tysL r m, t.t < 256 := by
    intro t ht
    unfold tysL at ht
    obtain ⟨i, _, rfl⟩ := List.mem_map.1 ht
    exact (r.getD (2 * i) 0).toNat_lt
  have htl := tysL_len r m
  generalize tyR r m = x at *
  obtain ⟨tl, e⟩ := x
  simp only at hw hT hTl ⊢
  have hw2 : IntKind.i64.wrap (2 * (m : Int)) = ((2 * m : Nat) : Int) := by rw [wrap_i64 (by omega) (by omega)]; omega
  apply Tells.assoc
  apply Tells.seq (fr' := pmFr c ct ts m r [(16, .int .u8 1), (75, .int .u8 1)]) (H' := pbHp c b cg g 1 t1)
  · unfold pmFr pbHp
    generalize ts.map Ty.pay = L at *
    generalize g.map AV.bool = G at *
    (refine ⟨0, ?_⟩; simp (maxSteps := 2000000) -implicitDefEqProofs [-getElem?_pos, List.getElem?_cons_zero, List.getElem?_cons_succ, go_sem, eqV, plen, loadV, storeV, roB])
  apply Tells.or (P := fun fr H => e = 0 ∧ fr = [(2, .sl 3 0 tl.length 0), (8, .sl 2 0 0 0), (11, .fn 22 [.ptr 1 0 0 0]), (13, .fn 23 [.ptr 0 0 0 0]), (15, .ro c (.pb (r.drop (2 * m))) 1), (16, .int .u8 1)] ∧ H = pbHp c b cg g 1 t1 ++ [some ob])
  case h' =>
    rintro fr H ⟨rfl, rfl, rfl⟩
    obtain ⟨rfl, hle⟩ := hTl rfl
    rw [if_neg (by simp)]
    have hh : PrHp c b cg g (tysL r m) (.sl 3 0 (tysL r m).length 0) (pbHp c b cg g 1 t1 ++ [some ob]) [] 0 := ⟨rfl, ⟨t1, rfl⟩, ⟨nilP, rfl, nilP_rw⟩, .inr ⟨3, 0, ob, rfl, by omega, rfl, hw⟩⟩
    have := piece (pr_tail c b cg g (tysL r m) 1 (.sl 3 0 (tysL r m).length 0) (r.drop (2 * m)) _ [] hc (by omega) (by omega) htt (by simp; omega) (.inr rfl) hh (.inl rfl)) _ rfl
    rw [show prF b g (tysL r m) (tysL r m).length 0 [] (r.drop (2 * m)) = prF b g (tysL r m) m 0 [] (r.drop (2 * m)) by rw [htl]] at this
    exact this
  case h =>
  apply Tells.blkOr
  case hq => rintro o ⟨h, _⟩; rw [h]; simp
  apply Tells.seq (fr' := pmFr c ct ts m r [(16, .int .u8 1), (75, .int .u8 1), (76, .bool false)]) (H' := pbHp c b cg g 1 t1)
  · unfold pmFr pbHp
    generalize ts.map Ty.pay = L at *
    generalize g.map AV.bool = G at *
    (refine ⟨0, ?_⟩; simp (maxSteps := 2000000) -implicitDefEqProofs [-getElem?_pos, List.getElem?_cons_zero, List.getElem?_cons_succ, go_sem, eqV, plen, loadV, storeV, roB])
  refine Tells.condF (by simp [evalO, getF, pmFr]) ?_
  apply Tells.seq (fr' := [(1, .int .i64 (m : Nat)), (8, .sl 2 0 0 0), (11, .fn 22 [.ptr 1 0 0 0]), (13, .fn 23 [.ptr 0 0 0 0]), (15, .ro c (.pb r) 1), (16, .int .u8 1), (96, .bool true)]) (H' := pbHp c b cg g 1 t1)
  · unfold pmFr pbHp
    generalize ts.map Ty.pay = L at *
    generalize g.map AV.bool = G at *
    (refine ⟨0, ?_⟩; simp (maxSteps := 2000000) -implicitDefEqProofs [-getElem?_pos, List.getElem?_cons_zero, List.getElem?_cons_succ, go_sem, eqV, plen, loadV, storeV, roB])
  refine Tells.condT (by simp [evalO, getF, pmFr]) ?_
  have hlen : (pbHp c b cg g 1 t1).length = 3 := rfl
  rw [hlen] at hT
  apply Tells.seq (fr' := [(1, .int .i64 (m : Nat)), (2, .sl 3 0 tl.length 0), (8, .sl 2 0 0 0), (10, .int .i64 e), (11, .fn 22 [.ptr 1 0 0 0]), (13, .fn 23 [.ptr 0 0 0 0]), (15, .ro c (.pb r) 1), (16, .int .u8 1)]) (H' := pbHp c b cg g 1 t1 ++ [some ob])
  · generalize pbHp c b cg g 1 t1 = HH at *
    generalize tl.length = N at *
    (refine ⟨0, ?_⟩; simp (maxSteps := 2000000) -implicitDefEqProofs [-getElem?_pos, List.getElem?_cons_zero, List.getElem?_cons_succ, go_sem, eqV, plen, loadV, storeV, hT, assignV])
  have hnew : (pbHp c b cg g 1 t1 ++ [some ob, some nilP])[4]? = some (some nilP) := rfl
  have hHl : (pbHp c b cg g 1 t1 ++ [some ob]).length = 4 := rfl
  apply Tells.assoc
  by_cases he : e = 0
  · obtain ⟨_, hle⟩ := hTl he
    subst he
    have hsl := slFrom (c := c) (t := 1) (n := 2 * m) (b := r) (fun h => absurd h hc) hle (pbHp c b cg g 1 t1 ++ [some ob])
    refine Tells.of (o := ⟨.normal, [(2, .sl 3 0 tl.length 0), (8, .sl 2 0 0 0), (11, .fn 22 [.ptr 1 0 0 0]), (13, .fn 23 [.ptr 0 0 0 0]), (15, .ro c (.pb (r.drop (2 * m))) 1), (16, .int .u8 1)], pbHp c b cg g 1 t1 ++ [some ob]⟩) ⟨0, ?_⟩ (.inl ⟨rfl, rfl, rfl, rfl⟩)
    generalize pbHp c b cg g 1 t1 ++ [some ob] = HH at *
    generalize r.drop (2 * m) = rr at *
    generalize 2 * m = m2 at *
    generalize tl.length = N at *
    simp (maxSteps := 2000000) -implicitDefEqProofs [-getElem?_pos, List.getElem?_cons_zero, List.getElem?_cons_succ, go_sem, eqV, plen, loadV, storeV, hw2, hsl, assignV]
  · have heb : (e != 0) = true := by simpa using he
    refine Tells.of (o := ⟨.ret, [(8, .sl 4 0 0 0), (9, .bool false), (10, .int .i64 e)], pbHp c b cg g 1 t1 ++ [some ob, some nilP]⟩) ⟨0, ?_⟩ (.inr ⟨by simp, hbad ⟨he, rfl, 4, rfl, rfl, rfl, hnew⟩ (if_pos he)⟩)
    have hcat : pbHp c b cg g 1 t1 ++ [some ob, some nilP] = (pbHp c b cg g 1 t1 ++ [some ob]) ++ [some nilP] := by simp
    rw [hcat]
    generalize pbHp c b cg g 1 t1 ++ [some ob] = HH at *
    generalize tl.length = N at *
    simp (maxSteps := 2000000) -implicitDefEqProofs [-getElem?_pos, List.getElem?_cons_zero, List.getElem?_cons_succ, go_sem, eqV, plen, loadV, storeV, heb, assignV, emP, hHl]

set_option maxRecDepth 100000 in
set_option maxHeartbeats 4000000 in
theorem pr_mid (T : Nat) (hc : c ≠ 0) (hct : ct = 0 → ts = []) (h1 : 1 ≤ m) (hm : m ≤ 65535) (hb : (m + 7) / 8 ≤ b.length) (htt : ∀ t ∈ ts, t.t < 256) (hbl : b.length ≤ 90000000) :
    ∃ code, ((Try.f9.body).bind (codeAt [1, 1, 1, 1, 1, 1, 1, 1])) = some code ∧ Tells (Rets (PrZ (rdMid b m ts g (b.drop ((m + 7) / 8))))) X (evT X) 9 0 code (pbFr m (.ro ct (.pr 2 (ts.map Ty.pay)) 3) (8 * ((m + 7) / 8)) ++ [(48, .bool false)]) (pbHp c b cg g 1 t1) := by
  refine ⟨_, rfl, ?_⟩
  have hsl := slFrom (c := c) (t := 1) (n := (m + 7) / 8) (b := b) (fun h => absurd h hc) hb (pbHp c b cg g 1 t1)
  have hrl : (b.drop ((m + 7) / 8)).length ≤ 90000000 := by rw [List.length_drop]; omega
  apply Tells.seq (fr' := pmFr c ct ts m (b.drop ((m + 7) / 8)) []) (H' := pbHp c b cg g 1 t1)
  · unfold pbFr pmFr
    unfold pbHp at *
    generalize ts.map Ty.pay = L at *
    generalize g.map AV.bool = G at *
    generalize b.drop ((m + 7) / 8) = rr at *
    generalize 8 * ((m + 7) / 8) = m8 at *
    generalize (m + 7) / 8 = q at *
    simp only [roB] at hsl
    (refine ⟨0, ?_⟩; simp (maxSteps := 2000000) -implicitDefEqProofs [-getElem?_pos, List.getElem?_cons_zero, List.getElem?_cons_succ, go_sem, eqV, plen, loadV, storeV, roB, hsl, assignV])
  clear hsl
  have hbad : ∀ {o : AM.Out} {e : Int} {x : List Pm × Bool × Int}, prE e o → x = ([], false, e) → Rets (PrZ x) o := by
    rintro o e x ⟨k1, k2, j, k3, k4, k5, k6⟩ h
    rw [h]
    exact ⟨k2, PrZ.bad k3 k4 k5 k6⟩
  apply Tells.assoc
  generalize b.drop ((m + 7) / 8) = rr at *
  match rr with
  | [] =>
    refine Tells.of (o := ⟨.ret, [(8, .sl 3 0 0 0), (9, .bool false), (10, .int .i64 4)], [some (roB c (.pb b) 1 1), some (roB cg (.pc (g.map .bool)) 4 t1), some nilP, some nilP]⟩) ⟨0, ?_⟩ (hbad ⟨by decide, rfl, 3, rfl, rfl, rfl, rfl⟩ rfl)
    unfold pmFr pbHp
    generalize ts.map Ty.pay = L at *
    generalize g.map AV.bool = G at *
    simp (maxSteps := 2000000) -implicitDefEqProofs [-getElem?_pos, List.getElem?_cons_zero, List.getElem?_cons_succ, go_sem, eqV, plen, loadV, storeV, roB, assignV, emP]
  | y :: r =>
  have hr2 : r.length ≤ 90000000 := by simp at hrl; omega
  have hlp : ¬ (((r.length + 1 : Nat) : Int) = 0) := by omega
  have hlb : ((((r.length : Nat) : Int) + 1) == 0) = false := beq_eq_false_iff_ne.2 (by omega)
  apply Tells.seq (fr' := pmFr c ct ts m (y :: r) [(69, .bool false)]) (H' := pbHp c b cg g 1 t1)
  · unfold pmFr pbHp
    generalize ts.map Ty.pay = L at *
    generalize g.map AV.bool = G at *
    (refine ⟨0, ?_⟩; simp (maxSteps := 2000000) -implicitDefEqProofs [-getElem?_pos, List.getElem?_cons_zero, List.getElem?_cons_succ, go_sem, eqV, plen, loadV, storeV, roB, hlb])
  apply Tells.seq (fr' := pmFr c ct ts m (y :: r) [(69, .bool false)]) (H' := pbHp c b cg g 1 t1)
  · exact condF (by simp [evalO, getF, pmFr]) ⟨0, rfl⟩
  apply Tells.seq (fr' := pmFr c ct ts m (y :: r) [(16, .int .u8 (y.toNat : Nat))]) (H' := pbHp c b cg g 1 t1)
  · unfold pmFr pbHp
    generalize ts.map Ty.pay = L at *
    generalize g.map AV.bool = G at *
    (refine ⟨0, ?_⟩; simp (maxSteps := 2000000) -implicitDefEqProofs [-getElem?_pos, List.getElem?_cons_zero, List.getElem?_cons_succ, go_sem, eqV, plen, loadV, storeV, roB, assignV])
  have hsl1 : sliceV X (pbHp c b cg g 1 t1) 22 (.ro c (.pb (y :: r)) 1) (some (.int .i64 1)) none = some (.ro c (.pb r) 1) := slFrom (c := c) (t := 1) (n := 1) (b := y :: r) (fun h => absurd h hc) (by simp) (pbHp c b cg g 1 t1)
  apply Tells.seq (fr' := pmFr c ct ts m r [(16, .int .u8 (y.toNat : Nat))]) (H' := pbHp c b cg g 1 t1)
  · unfold pmFr
    unfold pbHp at *
    generalize ts.map Ty.pay = L at *
    generalize g.map AV.bool = G at *
    simp only [roB] at hsl1
    (refine ⟨0, ?_⟩; simp (maxSteps := 2000000) -implicitDefEqProofs [-getElem?_pos, List.getElem?_cons_zero, List.getElem?_cons_succ, go_sem, eqV, plen, loadV, storeV, roB, hsl1, assignV])
  by_cases hy0 : y.toNat = 0
  · have : rdMid b m ts g (y :: r) = (if ts.length < m then ([], false, 5) else if (ts.take m).any (fun t => !kn t.t) then ([], false, 5) else prZ 0 (prF b g (ts.take m) m 0 [] r)) := if_pos hy0
    rw [this, hy0]
    exact piece (pr_kno c b ct ts cg g m t1 r hc hct h1 hm (by omega) htt hr2) _ rfl
  by_cases hy1 : y.toNat = 1
  · have : rdMid b m ts g (y :: r) = (if (tyR r m).2 ≠ 0 then ([], false, (tyR r m).2) else prZ 1 (prF b g (tyR r m).1 m 0 [] (r.drop (2 * m)))) := (if_neg hy0).trans (if_pos hy1)
    rw [this, hy1]
    exact piece (pr_told c b ct ts cg g m t1 r hc h1 hm (by omega) hr2) _ rfl
  have : rdMid b m ts g (y :: r) = ([], false, 5) := (if_neg hy0).trans (if_neg hy1)
  rw [this]
  have e0 : ((y.toNat : Int) == 0) = false := beq_eq_false_iff_ne.2 (by omega)
  have e1 : ((y.toNat : Int) == 1) = false := beq_eq_false_iff_ne.2 (by omega)
  refine Tells.of (o := ⟨.ret, [(8, .sl 3 0 0 0), (9, .bool false), (10, .int .i64 5)], [some (roB c (.pb b) 1 1), some (roB cg (.pc (g.map .bool)) 4 t1), some nilP, some nilP]⟩) ?_ (hbad ⟨by decide, rfl, 3, rfl, rfl, rfl, rfl⟩ rfl)
  apply Run.seq_out (hne := by simp)
  unfold pmFr pbHp
  generalize ts.map Ty.pay = L at *
  generalize g.map AV.bool = G at *
  generalize y.toNat = yn at *
  refine ⟨0, ?_⟩
  simp (maxSteps := 2000000) -implicitDefEqProofs [-getElem?_pos, List.getElem?_cons_zero, List.getElem?_cons_succ, go_sem, eqV, plen, loadV, storeV, roB, e0, e1, assignV, emP]

end

end Go.Proofs.Ytbmddnokokoofaa

/- Plain: parameters that are written are read back; less is too short, more is wrong. -/
namespace Go.Proofs.Ytbmddnokokoofaa
open Go.AM
set_option linter.unusedSimpArgs false
set_option linter.unusedVariables false

/-- bytes, types, what came as long data, that fit parameters -/
def FitP (l : List Pm) (b : List UInt8) (g : List Bool) (ts : List Ty) : Prop := ∀ i p, l[i]? = some p → tyI ts i = p.t ∧ lgB g i = p.lg ∧ bitB b i = (!p.lg && decide (p.v.k = 0))

theorem ok_nil {p : Pm} (h : p.bad = false) (hk : p.v.k = 0) : p.v = {} := by
  unfold Pm.bad at h
  simp only [Bool.or_eq_false_iff, decide_eq_false_iff_not, ne_eq, Decidable.not_not] at h
  rcases chk_ok h.1 with h | h
  · exact h
  · unfold okVa okVk at h
    rw [hk] at h
    simp at h
theorem okVk_k {v : Va} {k : Int} {n tt : Nat} (h : okVk v k n tt = true) : k = v.k ∧ 1 ≤ v.k := by
  unfold okVk at h
  by_cases k1 : v.k = 1
  · rw [if_pos k1] at h
    simp only [Bool.and_eq_true, decide_eq_true_eq] at h
    omega
  rw [if_neg k1] at h
  by_cases k2 : v.k = 2 ∨ v.k = 3 ∨ v.k = 4
  · rw [if_pos k2] at h
    simp only [Bool.and_eq_true, decide_eq_true_eq] at h
    omega
  rw [if_neg k2] at h
  by_cases k5 : v.k = 5 ∨ v.k = 6
  · rw [if_pos k5] at h
    simp only [Bool.and_eq_true, decide_eq_true_eq] at h
    omega
  rw [if_neg k5] at h
  by_cases k7 : v.k = 7
  · rw [if_pos k7] at h
    simp only [Bool.and_eq_true, decide_eq_true_eq] at h
    omega
  rw [if_neg k7] at h
  cases h
theorem ok_val {p : Pm} (h : p.bad = false) (hl : p.lg = false) (hk : p.v.k ≠ 0) : chkV p.v p.t = 0 ∧ p.t.t ≠ 6 := by
  unfold Pm.bad at h
  simp only [Bool.or_eq_false_iff, decide_eq_false_iff_not, ne_eq, Decidable.not_not] at h
  refine ⟨h.1, fun h6 => ?_⟩
  rcases chk_ok h.1 with h2 | h2
  · rw [h2] at hk; exact hk rfl
  · have hkn : kindN p.t.t p.t.u = 0 ∨ kindN p.t.t p.t.u = -1 := by
      rw [h6]; unfold kindN; split
      · exact .inr rfl
      · left; simp
    have := okVk_k h2
    omega
theorem ok_lg {p : Pm} (h : p.bad = false) (hl : p.lg = true) : p.v.k = 0 := by
  unfold Pm.bad at h
  rw [hl] at h
  have h2 : chkV p.v p.t = 0 ∧ p.v.k = 0 := by simpa using h
  exact h2.2

theorem getsuf {α : Type} (pre : List α) (p : α) (suf : List α) : (pre ++ p :: suf)[pre.length]? = some p := by
  rw [List.getElem?_append_right (Nat.le_refl _), Nat.sub_self]; rfl

theorem prF_back {l : List Pm} {b : List UInt8} {g : List Bool} {ts : List Ty} (hF : FitP l b g ts) (hok : ∀ p ∈ l, p.ok) (hbad : ∀ p ∈ l, p.bad = false) (E : List UInt8) :
    ∀ (suf pre : List Pm), l = pre ++ suf → prF b g ts suf.length pre.length pre (restB suf ++ E) = (l, E, 0)
  | [], pre, h => by
    rw [h, List.append_nil]; rfl
  | p :: suf, pre, h => by
    have hp : l[pre.length]? = some p := by rw [h]; exact getsuf pre p suf
    have hm : p ∈ l := List.mem_of_getElem? hp
    obtain ⟨f1, f2, f3⟩ := hF _ p hp
    have hb := hbad p hm
    have ho := hok p hm
    have hrest : restB (p :: suf) = paE p ++ restB suf := rfl
    rw [List.length_cons, prF, f1, f2, f3, hrest]
    have ih := prF_back hF hok hbad E suf (pre ++ [p]) (by rw [h]; simp)
    rw [List.length_append] at ih
    by_cases hc : p.lg = true ∨ p.v.k = 0
    · rw [if_pos (by
        rcases hc with h | h
        · exact .inl h
        · cases hl : p.lg with
          | true => exact .inl rfl
          | false => exact .inr (by rw [h]; rfl))]
      have hv : p.v = {} := by
        rcases hc with h | h
        · exact ok_nil hb (ok_lg hb h)
        · exact ok_nil hb h
      have hp2 : (⟨p.t, p.lg, {}⟩ : Pm) = p := by cases p; simp only at hv; subst hv; rfl
      have he : paE p = [] := if_pos hc
      rw [hp2, he]
      exact ih
    · have hl : p.lg = false := by cases h : p.lg with | true => exact absurd (.inl h) hc | false => rfl
      have hk : p.v.k ≠ 0 := fun h => hc (.inr h)
      obtain ⟨q1, q2⟩ := ok_val hb hl hk
      have he : paE p = enV p.v p.t := if_neg hc
      have hr := val_back q1 hk ho.2.1 ho.2.2 (restB suf ++ E)
      rw [he, List.append_assoc, hl, if_neg (by rw [decide_eq_false hk]; simp), if_neg q2, hr, if_neg (by simp)]
      have hp2 : (⟨p.t, false, p.v⟩ : Pm) = p := by cases p; simp only at hl; subst hl; rfl
      rw [hp2]
      simp only [List.drop_left]
      exact ih

theorem prF_less {l : List Pm} {b : List UInt8} {g : List Bool} {ts : List Ty} (hF : FitP l b g ts) (hok : ∀ p ∈ l, p.ok) (hbad : ∀ p ∈ l, p.bad = false) :
    ∀ (suf pre : List Pm) (k : Nat), l = pre ++ suf → k < (restB suf).length → prF b g ts suf.length pre.length pre ((restB suf).take k) = ([], [], 4)
  | [], pre, k, h, hk => by simp [restB] at hk
  | p :: suf, pre, k, h, hk => by
    have hp : l[pre.length]? = some p := by rw [h]; exact getsuf pre p suf
    have hm : p ∈ l := List.mem_of_getElem? hp
    obtain ⟨f1, f2, f3⟩ := hF _ p hp
    have hb := hbad p hm
    have ho := hok p hm
    have hrest : restB (p :: suf) = paE p ++ restB suf := rfl
    rw [hrest] at hk
    rw [List.length_cons, prF, f1, f2, f3, hrest]
    have ih := fun k => prF_less hF hok hbad suf (pre ++ [p]) k (by rw [h]; simp)
    rw [List.length_append] at ih
    by_cases hc : p.lg = true ∨ p.v.k = 0
    · rw [if_pos (by
        rcases hc with h | h
        · exact .inl h
        · cases hl : p.lg with
          | true => exact .inl rfl
          | false => exact .inr (by rw [h]; rfl))]
      have hv : p.v = {} := by
        rcases hc with h | h
        · exact ok_nil hb (ok_lg hb h)
        · exact ok_nil hb h
      have hp2 : (⟨p.t, p.lg, {}⟩ : Pm) = p := by cases p; simp only at hv; subst hv; rfl
      have he : paE p = [] := if_pos hc
      rw [he, List.nil_append] at hk
      rw [hp2, he]
      exact ih k hk
    · have hl : p.lg = false := by cases h : p.lg with | true => exact absurd (.inl h) hc | false => rfl
      have hk0 : p.v.k ≠ 0 := fun h => hc (.inr h)
      obtain ⟨q1, q2⟩ := ok_val hb hl hk0
      have he : paE p = enV p.v p.t := if_neg hc
      rw [he, List.length_append] at hk
      rw [he, hl, if_neg (by rw [decide_eq_false hk0]; simp), if_neg q2]
      by_cases hk2 : k < (enV p.v p.t).length
      · rw [List.take_append_of_le_length (by omega)]
        have h4 := val_less q1 hk0 hk2
        rw [if_pos (by rw [h4]; decide), h4]
      · have hr := val_back q1 hk0 ho.2.1 ho.2.2 ((restB suf).take (k - (enV p.v p.t).length))
        rw [List.take_append, List.take_of_length_le (by omega), hr, if_neg (by simp)]
        have hp2 : (⟨p.t, false, p.v⟩ : Pm) = p := by cases p; simp only at hl; subst hl; rfl
        rw [hp2]
        simp only [List.drop_left]
        exact ih _ (by omega)

end Go.Proofs.Ytbmddnokokoofaa

/- Plain: parameters that are written are read back: whole. -/
namespace Go.Proofs.Ytbmddnokokoofaa
open Go.AM
set_option linter.unusedSimpArgs false
set_option linter.unusedVariables false

def bitsP (l : List Pm) : List UInt8 := bitN (nulP l) 0 (zer ((l.length + 7) / 8)) l.length
theorem bitsP_len (l : List Pm) : (bitsP l).length = (l.length + 7) / 8 := by unfold bitsP; rw [bitN_len]; simp [zer]
def lgP (l : List Pm) : List Bool := l.map (·.lg)
def tyP (l : List Pm) : List Ty := l.map (·.t)
theorem lgP_at {l : List Pm} {i : Nat} {p : Pm} (h : l[i]? = some p) : lgB (lgP l) i = p.lg := by
  unfold lgB lgP; rw [List.getD, List.getElem?_map, h]; rfl
theorem tyP_at {l : List Pm} {i : Nat} {p : Pm} (h : l[i]? = some p) : tyI (tyP l) i = p.t := by
  unfold tyI tyP; rw [List.getD, List.getElem?_map, h]; rfl
theorem bits_at {l : List Pm} {R : List UInt8} {i : Nat} (h : i < 8 * ((l.length + 7) / 8)) : bitB (bitsP l ++ R) i = (decide (i < l.length) && nulP l i) := by
  rw [bitB_cat (by rw [bitsP_len]; omega)]
  exact bit_bitN (nulP l) l.length i (by omega)
theorem fit_of {l : List Pm} {R : List UInt8} : FitP l (bitsP l ++ R) (lgP l) (tyP l) := by
  intro i p hp
  have hlt := at_lt hp
  refine ⟨tyP_at hp, lgP_at hp, ?_⟩
  rw [bits_at (by omega), decide_eq_true hlt, Bool.true_and]
  unfold nulP
  rw [hp]
theorem bits_ok {l : List Pm} {R : List UInt8} : (List.range (8 * ((l.length + 7) / 8))).any (bxB (bitsP l ++ R) (lgP l) l.length) = false := by
  rw [List.any_eq_false]
  intro i hi
  have hi := List.mem_range.1 hi
  unfold bxB
  rw [bits_at hi]
  by_cases h : i < l.length
  · obtain ⟨p, hp⟩ : ∃ p, l[i]? = some p := ⟨_, List.getElem?_eq_getElem h⟩
    rw [lgP_at hp]
    unfold nulP
    rw [hp]
    cases hl : p.lg with
    | true => simp [hl]
    | false => simp; omega
  · rw [decide_eq_false h]; simp

/-- the bits read, what stands behind them -/
theorem rd_bits {l : List Pm} {R : List UInt8} {ts : List Ty} (h1 : 1 ≤ l.length) (h2 : l.length ≤ 65535) : rdPar (bitsP l ++ R) (l.length : Nat) ts (lgP l) = rdMid (bitsP l ++ R) l.length ts (lgP l) R := by
  have hl := bitsP_len l
  rw [rdPar_mid _ _ _ _ h1 h2, if_neg (by rw [List.length_append]; omega), bits_ok, if_neg (by simp)]
  congr 1
  rw [← hl, List.drop_left]

theorem tyR_of {l : List Pm} {R : List UInt8} (hok : ∀ p ∈ l, p.ok) (hbad : ∀ p ∈ l, p.bad = false) : tyR (tysB l ++ R) l.length = (tyP l, 0) := by
  have hE : ∀ j, 0 ≤ j → j < 0 + l.length → tyE (tysB l ++ R) j = 0 := by
    intro j _ hj
    obtain ⟨p, hp⟩ : ∃ p, l[j]? = some p := ⟨_, List.getElem?_eq_getElem (by omega)⟩
    have hm := List.mem_of_getElem? hp
    exact (tyE_of hp (hok p hm) (hbad p hm)).1
  unfold tyR
  rw [tyF_zero l.length 0 hE, if_neg (by simp)]
  congr 1
  unfold tysL tyP
  apply List.ext_getElem?
  intro i
  rw [List.getElem?_map, List.getElem?_map]
  by_cases hi : i < l.length
  · obtain ⟨p, hp⟩ : ∃ p, l[i]? = some p := ⟨_, List.getElem?_eq_getElem hi⟩
    have hm := List.mem_of_getElem? hp
    rw [List.getElem?_range hi, hp]
    simp only [Option.map_some]
    rw [(tyE_of hp (hok p hm) (hbad p hm)).2]
  · rw [List.getElem?_eq_none (by simp; omega), List.getElem?_eq_none (by omega)]
    rfl

theorem tys_less {l : List Pm} {k : Nat} (hok : ∀ p ∈ l, p.ok) (hbad : ∀ p ∈ l, p.bad = false) (hk : k < (tysB l).length) : (tyR ((tysB l).take k) l.length).2 = 4 := by
  have hl := tysB_len l
  have hlen : ((tysB l).take k).length = k := by rw [List.length_take]; omega
  have hget : ∀ j, j < k → ((tysB l).take k).getD j 0 = (tysB l ++ []).getD j 0 := by
    intro j hj
    rw [List.getD, List.getD, List.getElem?_take_of_lt hj, List.append_nil]
  have h0 : ∀ j, 0 ≤ j → j < k / 2 → tyE ((tysB l).take k) j = 0 := by
    intro j _ hj
    obtain ⟨p, hp⟩ : ∃ p, l[j]? = some p := ⟨_, List.getElem?_eq_getElem (by omega)⟩
    have hm := List.mem_of_getElem? hp
    have h := (tyE_of (R := []) hp (hok p hm) (hbad p hm)).1
    unfold tyE at h ⊢
    rw [hget _ (by omega), hget _ (by omega), hlen]
    rw [if_neg (by rw [List.append_nil]; omega)] at h
    rw [if_neg (by omega)]
    split at h
    · cases h
    · rename_i hx
      rw [if_neg hx]
      rw [if_neg (by rw [List.append_nil]; omega)] at h
      rw [if_neg (by omega)]
      exact h
  have h4 : tyE ((tysB l).take k) (k / 2) = 4 := by
    obtain ⟨p, hp⟩ : ∃ p, l[k / 2]? = some p := ⟨_, List.getElem?_eq_getElem (by omega)⟩
    have hm := List.mem_of_getElem? hp
    have h := (tyE_of (R := []) hp (hok p hm) (hbad p hm)).1
    unfold tyE at h ⊢
    rw [hlen]
    by_cases he : k < 2 * (k / 2) + 1
    · rw [if_pos he]
    · rw [if_neg he, hget _ (by omega)]
      rw [if_neg (by rw [List.append_nil]; omega)] at h
      split at h
      · cases h
      · rename_i hx
        rw [if_neg hx, if_pos (by omega)]
  have hf := tyF_first (b := (tysB l).take k) (e := 4) (by decide) l.length 0 (k / 2) (by omega) (by omega) h0 h4
  unfold tyR
  rw [hf, if_pos (by decide)]

theorem kn_all {l : List Pm} (hbad : ∀ p ∈ l, p.bad = false) : (tyP l).any (fun t => !kn t.t) = false := by
  rw [List.any_eq_false]
  intro t ht
  obtain ⟨p, hp, rfl⟩ := List.mem_map.1 ht
  rw [ok_kn (hbad p hp)]; simp

theorem prZ_back {fi : Nat} {l : List Pm} {E : List UInt8} : prZ fi (l, E, 0) = if E = [] then (l, decide (fi = 1), 0) else ([], false, 5) := by
  unfold prZ
  rw [if_neg (by simp)]
  cases E with
  | nil => rw [if_neg (by simp), if_pos rfl]
  | cons a r => rw [if_pos (by simp), if_neg (by simp)]

/-- what stands behind the bits -/
def tailP (l : List Pm) (bd : Bool) : List UInt8 := (if bd then 1 :: tysB l else [0]) ++ restB l
theorem paB_eq (l : List Pm) (bd : Bool) : paB l bd = bitsP l ++ tailP l bd := by unfold paB tailP bitsP; rw [List.append_assoc]
/-- the types that are known, or are not asked -/
def TyFit (l : List Pm) (bd : Bool) (ts : List Ty) : Prop := bd = false → ts = tyP l

theorem rd_back {l : List Pm} {bd : Bool} {ts : List Ty} (h1 : 1 ≤ l.length) (h2 : l.length ≤ 65535) (hok : ∀ p ∈ l, p.ok) (hbad : ∀ p ∈ l, p.bad = false) (ht : TyFit l bd ts) (E : List UInt8) :
    rdPar (paB l bd ++ E) (l.length : Nat) ts (lgP l) = if E = [] then (l, bd, 0) else ([], false, 5) := by
  rw [paB_eq, List.append_assoc, rd_bits h1 h2]
  have hl : (tyP l).length = l.length := by simp [tyP]
  cases bd with
  | true =>
    have e : tailP l true ++ E = 1 :: (tysB l ++ (restB l ++ E)) := by simp [tailP]
    rw [e]
    have hM : ∀ R, rdMid (bitsP l ++ R) l.length ts (lgP l) (1 :: (tysB l ++ (restB l ++ E))) = (if (tyR (tysB l ++ (restB l ++ E)) l.length).2 ≠ 0 then ([], false, (tyR (tysB l ++ (restB l ++ E)) l.length).2) else prZ 1 (prF (bitsP l ++ R) (lgP l) (tyR (tysB l ++ (restB l ++ E)) l.length).1 l.length 0 [] ((tysB l ++ (restB l ++ E)).drop (2 * l.length)))) := fun R => rfl
    rw [hM, tyR_of hok hbad, if_neg (by simp)]
    have hd : (tysB l ++ (restB l ++ E)).drop (2 * l.length) = restB l ++ E := by rw [← tysB_len l, List.drop_left]
    simp only
    rw [hd]
    have := prF_back (b := bitsP l ++ 1 :: (tysB l ++ (restB l ++ E))) fit_of hok hbad E l [] rfl
    rw [List.length_nil] at this
    rw [this, prZ_back]
    simp
  | false =>
    have hts := ht rfl
    subst hts
    have e : tailP l false ++ E = 0 :: (restB l ++ E) := by simp [tailP]
    rw [e]
    have hM : ∀ R, rdMid (bitsP l ++ R) l.length (tyP l) (lgP l) (0 :: (restB l ++ E)) = (if (tyP l).length < l.length then ([], false, 5) else if ((tyP l).take l.length).any (fun t => !kn t.t) then ([], false, 5) else prZ 0 (prF (bitsP l ++ R) (lgP l) ((tyP l).take l.length) l.length 0 [] (restB l ++ E))) := fun R => rfl
    rw [hM, if_neg (by omega), List.take_of_length_le (by omega), kn_all hbad, if_neg (by simp)]
    have := prF_back (b := bitsP l ++ 0 :: (restB l ++ E)) fit_of hok hbad E l [] rfl
    rw [List.length_nil] at this
    rw [this, prZ_back]
    simp

theorem rd_few {l : List Pm} {ts : List Ty} (h1 : 1 ≤ l.length) (h2 : l.length ≤ 65535) (ht : ts.length < l.length) : rdPar (paB l false) (l.length : Nat) ts (lgP l) = ([], false, 5) := by
  rw [paB_eq, rd_bits h1 h2]
  have e : tailP l false = 0 :: restB l := by simp [tailP]
  rw [e]
  have hM : ∀ R, rdMid (bitsP l ++ R) l.length ts (lgP l) (0 :: restB l) = (if ts.length < l.length then ([], false, 5) else if (ts.take l.length).any (fun t => !kn t.t) then ([], false, 5) else prZ 0 (prF (bitsP l ++ R) (lgP l) (ts.take l.length) l.length 0 [] (restB l))) := fun R => rfl
  rw [hM, if_pos ht]

theorem rd_less {l : List Pm} {bd : Bool} {ts : List Ty} {k : Nat} (h1 : 1 ≤ l.length) (h2 : l.length ≤ 65535) (hok : ∀ p ∈ l, p.ok) (hbad : ∀ p ∈ l, p.bad = false) (ht : TyFit l bd ts) (hk : k < (paB l bd).length) :
    rdPar ((paB l bd).take k) (l.length : Nat) ts (lgP l) = ([], false, 4) := by
  rw [paB_eq] at hk ⊢
  have hbl := bitsP_len l
  have hl : (tyP l).length = l.length := by simp [tyP]
  rw [List.length_append] at hk
  by_cases hq : k < (l.length + 7) / 8
  · rw [rdPar_mid _ _ _ _ h1 h2, if_pos (by rw [List.length_take, List.length_append]; omega)]
  rw [List.take_append, List.take_of_length_le (by omega), rd_bits h1 h2]
  generalize hk2 : k - (bitsP l).length = k2 at *
  match k2 with
  | 0 => rfl
  | k2 + 1 =>
  have hz4 : ∀ fi, prZ fi (([] : List Pm), ([] : List UInt8), (4 : Int)) = ([], false, 4) := fun fi => rfl
  cases bd with
  | true =>
    have e : tailP l true = 1 :: (tysB l ++ restB l) := by simp [tailP]
    rw [e] at hk ⊢
    rw [List.take_succ_cons]
    rw [List.length_cons, List.length_append] at hk
    have hM : ∀ R X, rdMid (bitsP l ++ R) l.length ts (lgP l) (1 :: X) = (if (tyR X l.length).2 ≠ 0 then ([], false, (tyR X l.length).2) else prZ 1 (prF (bitsP l ++ R) (lgP l) (tyR X l.length).1 l.length 0 [] (X.drop (2 * l.length)))) := fun R X => rfl
    rw [hM]
    by_cases h3 : k2 < (tysB l).length
    · rw [List.take_append_of_le_length (by omega)]
      have := tys_less hok hbad h3
      rw [this, if_pos (by decide)]
    · rw [List.take_append, List.take_of_length_le (by omega), tyR_of hok hbad, if_neg (by simp)]
      simp only
      rw [show (tysB l ++ (restB l).take (k2 - (tysB l).length)).drop (2 * l.length) = (restB l).take (k2 - (tysB l).length) by rw [← tysB_len l, List.drop_left]]
      have := prF_less (b := bitsP l ++ 1 :: (tysB l ++ (restB l).take (k2 - (tysB l).length))) fit_of hok hbad l [] (k2 - (tysB l).length) rfl (by omega)
      rw [List.length_nil] at this
      rw [this]
      exact hz4 1
  | false =>
    have hts := ht rfl
    subst hts
    have e : tailP l false = 0 :: restB l := by simp [tailP]
    rw [e] at hk ⊢
    rw [List.take_succ_cons]
    rw [List.length_cons] at hk
    have hM : ∀ R X, rdMid (bitsP l ++ R) l.length (tyP l) (lgP l) (0 :: X) = (if (tyP l).length < l.length then ([], false, 5) else if ((tyP l).take l.length).any (fun t => !kn t.t) then ([], false, 5) else prZ 0 (prF (bitsP l ++ R) (lgP l) ((tyP l).take l.length) l.length 0 [] X)) := fun R X => rfl
    rw [hM, if_neg (by omega), List.take_of_length_le (by omega), kn_all hbad, if_neg (by simp)]
    have := prF_less (b := bitsP l ++ 0 :: (restB l).take k2) fit_of hok hbad l [] k2 rfl (by omega)
    rw [List.length_nil] at this
    rw [this]
    exact hz4 0

end Go.Proofs.Ytbmddnokokoofaa

/- Walks: parameters read: whole. -/
namespace Go.Proofs.Ytbmddnokokoofaa
open Go.AM
set_option linter.unusedSimpArgs false
set_option linter.unusedVariables false

section
variable (c : Nat) (b : List UInt8) (n : Int) (ct : Nat) (ts : List Ty) (cg : Nat) (g : List Bool)

set_option maxRecDepth 100000 in
set_option maxHeartbeats 4000000 in
theorem rd_code (hc : c = 0 → b = []) (hct : ct = 0 → ts = []) (hcg : cg = 0 → g = []) (hb : b.length ≤ 90000000) (htt : ∀ t ∈ ts, t.t < 256) :
    ∃ code, Try.f9.body = some code ∧
    Tells (Rets (PrZ (rdPar b n ts g))) X (evT X) 9 0 code [(0, .ro c (.pb b) 1), (1, .int .i64 n), (2, .ro ct (.pr 2 (ts.map Ty.pay)) 3), (3, .ro cg (.pc (g.map .bool)) 4)] [] := by
  refine ⟨_, rfl, ?_⟩
  generalize hTS : ts.map Ty.pay = TS at *
  generalize hG : g.map AV.bool = G at *
  apply Tells.seq (fr' := [(1, .int .i64 n), (2, .ro ct (.pr 2 TS) 3), (4, .ptr 0 0 0 0), (7, .ptr 1 0 0 0), (8, .sl 2 0 0 0)]) (H' := [some (roB c (.pb b) 1 0), some (roB cg (.pc G) 4 0), some nilP])
  · (refine ⟨0, ?_⟩; simp (maxSteps := 2000000) -implicitDefEqProofs [-getElem?_pos, List.getElem?_cons_zero, List.getElem?_cons_succ, go_sem, eqV, plen, loadV, storeV, roB, assignV, emP])
  have hbadR : ∀ {o : AM.Out} {e : Int}, prE e o → rdPar b n ts g = ([], false, e) → Rets (PrZ (rdPar b n ts g)) o := by
    rintro o e ⟨k1, k2, j, k3, k4, k5, k6⟩ h
    rw [h]
    exact ⟨k2, PrZ.bad k3 k4 k5 k6⟩
  by_cases h1 : n < 0 ∨ 65535 < n
  · have hr : rdPar b n ts g = ([], false, 2) := if_pos h1
    refine Tells.of (o := ⟨.ret, [(8, .sl 3 0 0 0), (9, .bool false), (10, .int .i64 2)], [some (roB c (.pb b) 1 0), some (roB cg (.pc G) 4 0), some nilP, some nilP]⟩) ?_ (hbadR ⟨by decide, rfl, 3, rfl, rfl, rfl, rfl⟩ hr)
    apply Run.seq_out (hne := by simp)
    rcases h1 with h | h
    · refine ⟨0, ?_⟩
      simp (maxSteps := 2000000) -implicitDefEqProofs [-getElem?_pos, List.getElem?_cons_zero, List.getElem?_cons_succ, go_sem, eqV, plen, loadV, storeV, h, assignV, emP]
    · have h' : ¬ n < 0 := by omega
      refine ⟨0, ?_⟩
      simp (maxSteps := 2000000) -implicitDefEqProofs [-getElem?_pos, List.getElem?_cons_zero, List.getElem?_cons_succ, go_sem, eqV, plen, loadV, storeV, h, h', assignV, emP]
  have n0 : ¬ n < 0 := by omega
  have n1 : ¬ 65535 < n := by omega
  obtain ⟨m, rfl⟩ : ∃ m : Nat, n = (m : Nat) := ⟨n.toNat, by omega⟩
  apply Tells.seq (fr' := [(1, .int .i64 (m : Nat)), (2, .ro ct (.pr 2 TS) 3), (4, .ptr 0 0 0 0), (7, .ptr 1 0 0 0), (8, .sl 2 0 0 0), (30, .bool false)]) (H' := [some (roB c (.pb b) 1 0), some (roB cg (.pc G) 4 0), some nilP])
  · (refine ⟨0, ?_⟩; simp (maxSteps := 2000000) -implicitDefEqProofs [-getElem?_pos, List.getElem?_cons_zero, List.getElem?_cons_succ, go_sem, eqV, plen, loadV, storeV, n0, n1])
  apply Tells.assoc
  by_cases hm0 : m = 0
  · subst hm0
    by_cases hb0 : 0 < b.length
    · have hr : rdPar b ((0 : Nat) : Int) ts g = ([], false, 5) := by unfold rdPar; rw [if_neg (by simp), if_pos (show ((0 : Nat) : Int) = 0 from rfl), if_pos hb0]
      have hbI : (0 : Int) < (b.length : Int) := by omega
      refine Tells.of (o := ⟨.ret, [(8, .sl 3 0 0 0), (9, .bool false), (10, .int .i64 5)], [some (roB c (.pb b) 1 0), some (roB cg (.pc G) 4 0), some nilP, some nilP]⟩) ⟨0, ?_⟩ (hbadR ⟨by decide, rfl, 3, rfl, rfl, rfl, rfl⟩ hr)
      simp (maxSteps := 2000000) -implicitDefEqProofs [-getElem?_pos, List.getElem?_cons_zero, List.getElem?_cons_succ, go_sem, eqV, plen, loadV, storeV, roB, hbI, hb0, assignV, emP]
    · have hr : rdPar b ((0 : Nat) : Int) ts g = ([], false, 0) := by unfold rdPar; rw [if_neg (by simp), if_pos (show ((0 : Nat) : Int) = 0 from rfl), if_neg hb0]
      have hbl : b.length = 0 := by omega
      refine Tells.of (o := ⟨.ret, [(8, .sl 3 0 0 0), (9, .bool false), (10, .int .i64 0)], [some (roB c (.pb b) 1 0), some (roB cg (.pc G) 4 0), some nilP, some nilP]⟩) ⟨0, ?_⟩ ⟨rfl, by rw [hr]; exact PrZ.bad rfl rfl rfl rfl⟩
      simp (maxSteps := 2000000) -implicitDefEqProofs [-getElem?_pos, List.getElem?_cons_zero, List.getElem?_cons_succ, go_sem, eqV, plen, loadV, storeV, roB, hbl, assignV, emP]
  have hmb : (((m : Nat) : Int) == 0) = false := beq_eq_false_iff_ne.2 (by omega)
  apply Tells.seq (fr' := [(1, .int .i64 (m : Nat)), (2, .ro ct (.pr 2 TS) 3), (4, .ptr 0 0 0 0), (7, .ptr 1 0 0 0), (8, .sl 2 0 0 0), (32, .bool false)]) (H' := [some (roB c (.pb b) 1 0), some (roB cg (.pc G) 4 0), some nilP])
  · (refine ⟨0, ?_⟩; simp (maxSteps := 2000000) -implicitDefEqProofs [-getElem?_pos, List.getElem?_cons_zero, List.getElem?_cons_succ, go_sem, eqV, plen, loadV, storeV, hmb, hm0])
  apply Tells.seq (fr' := [(1, .int .i64 (m : Nat)), (2, .ro ct (.pr 2 TS) 3), (4, .ptr 0 0 0 0), (7, .ptr 1 0 0 0), (8, .sl 2 0 0 0), (32, .bool false)]) (H' := [some (roB c (.pb b) 1 0), some (roB cg (.pc G) 4 0), some nilP])
  · exact condF (by simp [evalO, getF]) ⟨0, rfl⟩
  have hR := rdPar_mid b m ts g (by omega) (by omega)
  have w7 : IntKind.i64.wrap ((m : Int) + 7) = ((m + 7 : Nat) : Int) := by rw [wrap_i64 (by omega) (by omega)]; omega
  have w8 : IntKind.i64.wrap (Int.tdiv ((m + 7 : Nat) : Int) 8) = (((m + 7) / 8 : Nat) : Int) := by
    rw [Int.tdiv_eq_ediv_of_nonneg (by omega), wrap_i64 (by omega) (by omega)]; omega
  have w8' : IntKind.i64.wrap (((m + 7 : Nat) : Int) / 8) = (((m + 7) / 8 : Nat) : Int) := by
    rw [wrap_i64 (by omega) (by omega)]; omega
  have w9 : IntKind.i64.wrap (8 * (((m + 7) / 8 : Nat) : Int)) = ((8 * ((m + 7) / 8) : Nat) : Int) := by rw [wrap_i64 (by omega) (by omega)]; omega
  apply Tells.seq (fr' := [(1, .int .i64 (m : Nat)), (2, .ro ct (.pr 2 TS) 3), (4, .ptr 0 0 0 0), (8, .sl 2 0 0 0), (11, .fn 22 [.ptr 1 0 0 0])]) (H' := [some (roB c (.pb b) 1 0), some (roB cg (.pc G) 4 0), some nilP])
  · (refine ⟨0, ?_⟩; simp (maxSteps := 2000000) -implicitDefEqProofs [-getElem?_pos, List.getElem?_cons_zero, List.getElem?_cons_succ, go_sem, eqV, plen, loadV, storeV, scalars, scalar, assignV])
  apply Tells.seq (fr' := [(1, .int .i64 (m : Nat)), (2, .ro ct (.pr 2 TS) 3), (4, .ptr 0 0 0 0), (8, .sl 2 0 0 0), (11, .fn 22 [.ptr 1 0 0 0]), (12, .int .i64 (((m + 7) / 8 : Nat) : Int))]) (H' := [some (roB c (.pb b) 1 0), some (roB cg (.pc G) 4 0), some nilP])
  · generalize (m + 7) / 8 = q at *
    generalize m + 7 = m7 at *
    (refine ⟨0, ?_⟩; simp (maxSteps := 2000000) -implicitDefEqProofs [-getElem?_pos, List.getElem?_cons_zero, List.getElem?_cons_succ, go_sem, eqV, plen, loadV, storeV, w7, w8, w8'])
  apply Tells.assoc
  by_cases hq : b.length < (m + 7) / 8
  · rw [if_pos hq] at hR
    have hqi : (b.length : Int) < (((m + 7) / 8 : Nat) : Int) := by omega
    refine Tells.of (o := ⟨.ret, [(8, .sl 3 0 0 0), (9, .bool false), (10, .int .i64 4)], [some (roB c (.pb b) 1 0), some (roB cg (.pc G) 4 0), some nilP, some nilP]⟩) ?_ (hbadR ⟨by decide, rfl, 3, rfl, rfl, rfl, rfl⟩ hR)
    generalize (m + 7) / 8 = q at *
    refine ⟨0, ?_⟩
    simp (maxSteps := 2000000) -implicitDefEqProofs [-getElem?_pos, List.getElem?_cons_zero, List.getElem?_cons_succ, go_sem, eqV, plen, loadV, storeV, roB, hqi, assignV, emP]
  rw [if_neg hq] at hR
  have hqi : ¬ (b.length : Int) < (((m + 7) / 8 : Nat) : Int) := by omega
  apply Tells.seq (fr' := [(1, .int .i64 (m : Nat)), (2, .ro ct (.pr 2 TS) 3), (4, .ptr 0 0 0 0), (8, .sl 2 0 0 0), (11, .fn 22 [.ptr 1 0 0 0]), (12, .int .i64 (((m + 7) / 8 : Nat) : Int)), (43, .bool false)]) (H' := [some (roB c (.pb b) 1 0), some (roB cg (.pc G) 4 0), some nilP])
  · generalize (m + 7) / 8 = q at *
    (refine ⟨0, ?_⟩; simp (maxSteps := 2000000) -implicitDefEqProofs [-getElem?_pos, List.getElem?_cons_zero, List.getElem?_cons_succ, go_sem, eqV, plen, loadV, storeV, roB, hqi])
  apply Tells.seq (fr' := [(1, .int .i64 (m : Nat)), (2, .ro ct (.pr 2 TS) 3), (4, .ptr 0 0 0 0), (8, .sl 2 0 0 0), (11, .fn 22 [.ptr 1 0 0 0]), (12, .int .i64 (((m + 7) / 8 : Nat) : Int)), (43, .bool false)]) (H' := [some (roB c (.pb b) 1 0), some (roB cg (.pc G) 4 0), some nilP])
  · exact condF (by simp [evalO, getF]) ⟨0, rfl⟩
  apply Tells.seq (fr' := [(1, .int .i64 (m : Nat)), (2, .ro ct (.pr 2 TS) 3), (4, .ptr 0 0 0 0), (8, .sl 2 0 0 0), (11, .fn 22 [.ptr 1 0 0 0]), (12, .int .i64 (((m + 7) / 8 : Nat) : Int)), (13, .fn 23 [.ptr 0 0 0 0])]) (H' := [some (roB c (.pb b) 1 0), some (roB cg (.pc G) 4 0), some nilP])
  · generalize (m + 7) / 8 = q at *
    (refine ⟨0, ?_⟩; simp (maxSteps := 2000000) -implicitDefEqProofs [-getElem?_pos, List.getElem?_cons_zero, List.getElem?_cons_succ, go_sem, eqV, plen, loadV, storeV, scalars, scalar, assignV])
  apply Tells.assoc
  apply Tells.seq (fr' := pbFr m (.ro ct (.pr 2 TS) 3) 0) (H' := pbHp c b cg g 0 0)
  · unfold pbFr pbHp
    rw [hG]
    generalize 8 * ((m + 7) / 8) = m8 at *
    generalize (m + 7) / 8 = q at *
    (refine ⟨0, ?_⟩; simp (maxSteps := 2000000) -implicitDefEqProofs [-getElem?_pos, List.getElem?_cons_zero, List.getElem?_cons_succ, go_sem, eqV, plen, loadV, storeV, w9])
  apply Tells.or (P := fun fr H => (List.range (8 * ((m + 7) / 8))).any (bxB b g m) = false ∧ fr = pbFr m (.ro ct (.pr 2 TS) 3) (8 * ((m + 7) / 8)) ++ [(48, .bool false)] ∧ ∃ t1, H = pbHp c b cg g 1 t1) (piece ((pb_loop c b cg g m (.ro ct (.pr 2 TS) 3) (by omega) (by omega) (by omega)).imp fun code h => ⟨h.1, h.2.mono fun o h => by
    rcases h with h | ⟨k1, k2, k3⟩
    · exact .inl h
    · exact .inr ⟨k1, hbadR k3 (by rw [hR, if_pos k2])⟩⟩) _ rfl)
  rintro fr H ⟨hany, rfl, t1, rfl⟩
  rw [if_neg (by rw [hany]; simp)] at hR
  have hc0 : c ≠ 0 := fun h => by
    have := hc h
    subst this
    simp at hq
    omega
  rw [hR, ← hTS]
  exact piece (pr_mid c b ct ts cg g m t1 0 hc0 hct (by omega) (by omega) (by omega) htt hb) _ rfl

end

end Go.Proofs.Ytbmddnokokoofaa

/- Events: Read, whatever its types and its long data lie in. -/
namespace Go.Proofs.Ytbmddnokokoofaa
open Go.AM
set_option linter.unusedSimpArgs false
set_option linter.unusedVariables false

theorem pm_tags : ∀ l : List Pm, idsL (l.map Pm.pay) = [] ∧ tagsL (l.map Pm.pay) = []
  | [] => ⟨rfl, rfl⟩
  | p :: l => by simp [idsL, tagsL, pm_tags l, Pm.pay, ids, tags]
theorem bl_ids : ∀ l : List Bool, idsL (l.map AV.bool) = [] ∧ tagsL (l.map AV.bool) = []
  | [] => ⟨rfl, rfl⟩
  | b :: l => by simp [idsL, tagsL, bl_ids l, ids, tags]

theorem args_rd {f : Nat} {H : AM.Heap} {a : AV} {b : List UInt8} {n : Int} {ct tt cg tg : Nat} {ts : List Ty} {g : List Bool} (h : Byt H a b) (h0 : X.rw f 0 = false := by rfl) (h1 : X.rw f 1 = false := by rfl) (h2 : X.rw f 2 = false := by rfl) (h3 : X.rw f 3 = false := by rfl) :
    ∃ c p xl, PB p b ∧ (c = 0 → b = []) ∧ lendArgs X f H 0 [a, .int .i64 n, .ro ct (.pr 2 (ts.map Ty.pay)) tt, .ro cg (.pc (g.map .bool)) tg] = some ([.ro c p 1, .int .i64 n, .ro ct (.pr 2 (ts.map Ty.pay)) 3, .ro cg (.pc (g.map .bool)) 4], xl) := by
  have hx : lendArgs X f H 1 [.int .i64 n, .ro ct (.pr 2 (ts.map Ty.pay)) tt, .ro cg (.pc (g.map .bool)) tg] = some ([.int .i64 n, .ro ct (.pr 2 (ts.map Ty.pay)) 3, .ro cg (.pc (g.map .bool)) 4], [⟨[], []⟩, ⟨[], [tt]⟩, ⟨[], [tg]⟩]) :=
    args_flat h1 rfl (by simp only [lendArgs, h2, h3]; rfl)
  obtain ⟨c, p, xl, hp, hc, hx'⟩ := args_byt (C := X) (f := f) (i := 0) h0 h hx
  exact ⟨c, p, _, hp, hc, hx'⟩

theorem rdp_ev {H : AM.Heap} {a : AV} {b : List UInt8} {n : Int} {ct tt cg tg : Nat} {ts : List Ty} {g : List Bool} (h : Byt H a b) (hct : ct = 0 → ts = []) (hcg : cg = 0 → g = []) (hb : b.length ≤ 90000000) (htt : ∀ t ∈ ts, t.t < 256) :
    ∃ ob, Rw (.pr 15 ((rdPar b n ts g).1.map Pm.pay)) 0 ob ∧ evT X 9 [a, .int .i64 n, .ro ct (.pr 2 (ts.map Ty.pay)) tt, .ro cg (.pc (g.map .bool)) tg] H = some (.tup [.sl H.length 0 (rdPar b n ts g).1.length 0, .bool (rdPar b n ts g).2.1, .int .i64 (rdPar b n ts g).2.2], H ++ [some ob]) := by
  obtain ⟨c, p, xl, hp, hc, hx'⟩ := args_rd (f := 9) (n := n) (ct := ct) (tt := tt) (cg := cg) (tg := tg) (ts := ts) (g := g) h
  obtain ⟨code, hcode, hr⟩ := rd_code c b n ct ts cg g hc hct hcg hb htt
  have hid := pm_tags (rdPar b n ts g).1
  obtain ⟨ob, q1, q2⟩ := Ev1.newR (H := H) (n := (rdPar b n ts g).1.length) (es := 15) (l := (rdPar b n ts g).1.map Pm.pay) (rest := [.bool (rdPar b n ts g).2.1, .int .i64 (rdPar b n ts g).2.2]) (evT_below X) Try.func9 hcode hx' (by simp [idsL, ids, hp.ids, ty_ids ts, bl_ids g]) (by simp [gtag]) rfl rfl rfl hid.1 hid.2 (by
    obtain ⟨o, ⟨he, o1, g1, ob, q1, q2, q3, q4, q5⟩, hrun⟩ := hr
    exact ⟨o, ⟨he, o1, g1, ob, by show some [getF o.fr 8, getF o.fr 9, getF o.fr 10] = _; rw [q1, q2, q3], q4, q5⟩, by rw [par9, coB hp]; exact hrun⟩)
  exact ⟨ob, q1, evT_eq q2⟩

theorem emTy0 : emptyRow X 27 = .pr 2 [] := by kernel_rfl
theorem emBl0 : emptyRow X 4 = .pc [] := by kernel_rfl
theorem undTs : und X 43 = .slice 27 := by kernel_rfl
theorem undBs : und X 44 = .slice 4 := by kernel_rfl

theorem rdq_ev {H : AM.Heap} {a A G : AV} {b : List UInt8} {n : Int} {ts : List Ty} {g : List Bool} (h : Byt H a b) (hA : RoRow H A 2 (ts.map Ty.pay)) (hG : RoCel H G (g.map .bool)) (hb : b.length ≤ 90000000) (htt : ∀ t ∈ ts, t.t < 256) :
    ∃ ob, Rw (.pr 15 ((rdPar b n ts g).1.map Pm.pay)) 0 ob ∧ evT X 9 [a, .int .i64 n, A, G] H = some (.tup [.sl H.length 0 (rdPar b n ts g).1.length 0, .bool (rdPar b n ts g).2.1, .int .i64 (rdPar b n ts g).2.2], H ++ [some ob]) := by
  obtain ⟨cg, pg, xg, hpg, hcg, hxg⟩ := args_cel (C := X) (f := 9) (i := 3) rfl hG (args_nil 4)
  obtain ⟨ct, pt, xt, hpt, hct, hxt⟩ := args_row (C := X) (f := 9) (i := 2) rfl hA hxg
  obtain ⟨c, p, xl, hp, hc, hx'⟩ := args_byt (C := X) (f := 9) (i := 0) rfl h (args_flat (i := 1) (a := .int .i64 n) rfl rfl hxt)
  have hct' : ct = 0 → ts = [] := fun h => List.map_eq_nil_iff.1 (hct h)
  have hcg' : cg = 0 → g = [] := fun h => List.map_eq_nil_iff.1 (hcg h)
  obtain ⟨code, hcode, hr⟩ := rd_code c b n ct ts cg g hc hct' hcg' hb htt
  have hid := pm_tags (rdPar b n ts g).1
  have hit : ids pt = [] := by rcases hpt with rfl | ⟨rfl, _⟩ <;> simp [ids, ty_ids ts]
  have hig : ids pg = [] := by rcases hpg with rfl | ⟨rfl, _⟩ <;> simp [ids, bl_ids g]
  have hco : coerce X [.ro c p 1, .int .i64 n, .ro ct pt 3, .ro cg pg 4] (paramsOf X 9) = [.ro c (.pb b) 1, .int .i64 n, .ro ct (.pr 2 (ts.map Ty.pay)) 3, .ro cg (.pc (g.map .bool)) 4] := by
    rw [par9, coB hp]
    rcases hpt with rfl | ⟨rfl, e⟩ <;> rcases hpg with rfl | ⟨rfl, e2⟩
    · rfl
    · simp [coerce, undBs, emBl0, e2]
    · simp [coerce, undTs, emTy0, e]
    · simp [coerce, undBs, emBl0, undTs, emTy0, e, e2]
  obtain ⟨ob, q1, q2⟩ := Ev1.newR (H := H) (n := (rdPar b n ts g).1.length) (es := 15) (l := (rdPar b n ts g).1.map Pm.pay) (rest := [.bool (rdPar b n ts g).2.1, .int .i64 (rdPar b n ts g).2.2]) (evT_below X) Try.func9 hcode hx' (by simp [idsL, ids, hp.ids, hit, hig]) (by simp [gtag]) rfl rfl rfl hid.1 hid.2 (by
    obtain ⟨o, ⟨he, o1, g1, ob, q1, q2, q3, q4, q5⟩, hrun⟩ := hr
    exact ⟨o, ⟨he, o1, g1, ob, by show some [getF o.fr 8, getF o.fr 9, getF o.fr 10] = _; rw [q1, q2, q3], q4, q5⟩, by rw [hco]; exact hrun⟩)
  exact ⟨ob, q1, evT_eq q2⟩

end Go.Proofs.Ytbmddnokokoofaa

/- Walks: what an execute says: its parameters looked at. -/
namespace Go.Proofs.Ytbmddnokokoofaa
open Go.AM
set_option linter.unusedSimpArgs false
set_option linter.unusedVariables false

theorem live_new (H : AM.Heap) (ob : AM.Obj) (h : ob.g = 0) : live (H ++ [some ob]) H.length 0 = some ob := by
  simp [live, h]

/-- what Append tells -/
def pApp (b : List UInt8) (l : List Pm) (bd : Bool) : List UInt8 × Int :=
  if 65535 < l.length then ([], 3) else if l.any Pm.bad then ([], 2) else if l.length = 0 then (b, 0) else (b ++ paB l bd, 0)

def pcFr (A L : AV) (bd : Bool) (n i : Nat) : AM.Frame := [(0, A), (1, L), (2, .bool bd), (20, L), (21, .int .i64 (n : Nat)), (22, .int .i64 (i : Nat))]

section
variable (c : Nat) (b : List UInt8) (d : Nat) (l : List Pm) (bd : Bool)

set_option maxRecDepth 100000 in
set_option maxHeartbeats 4000000 in
theorem pappend_code (hc : c = 0 → b = []) (hb : b.length ≤ 2000000) (hl : ∀ p ∈ l, p.ok) (hR : (restB l).length ≤ 1000000) : ∃ code, Try.f8.body = some code ∧
    Tells (Rets fun fr H => ∃ o g ob, getF fr 6 = .sl o 0 (pApp b l bd).1.length g ∧ getF fr 7 = .int .i64 (pApp b l bd).2 ∧ H[o]? = some (some ob) ∧ Rw (.pb (pApp b l bd).1) g ob) X (evT X) 8 0 code [(0, .ro c (.pb b) 1), (1, .ro d (pmL l) 2), (2, .bool bd)] [] := by
  refine ⟨_, rfl, ?_⟩
  have hLat : ∀ (i : Nat) (p : Pm), l[i]? = some p → (l.map Pm.pay)[i]? = some p.pay := fun i p h => (by rw [List.getElem?_map, h]; rfl)
  have hLl : (l.map Pm.pay).length = l.length := List.length_map _
  unfold pmL
  generalize hLm : l.map Pm.pay = L at *
  apply Tells.seq (fr' := [(0, .ro c (.pb b) 1), (1, .ro d (.pr 15 L) 2), (2, .bool bd)]) (H' := [some nilB])
  · (refine ⟨0, ?_⟩; simp (maxSteps := 2000000) -implicitDefEqProofs [-getElem?_pos, List.getElem?_cons_zero, List.getElem?_cons_succ, go_sem, eqV, plen, loadV, storeV, assignV, emB])
  by_cases h5 : 65535 < l.length
  · rw [show pApp b l bd = ([], 3) from if_pos h5]
    refine Tells.of (o := ⟨.ret, [(6, .sl 1 0 0 0), (7, .int .i64 3)], [some nilB, some nilB]⟩) ?_ ⟨rfl, 1, 0, nilB, rfl, rfl, rfl, nilB_rw⟩
    apply Run.seq_out (hne := by simp)
    have h5i : (65535 : Int) < (l.length : Int) := by omega
    refine ⟨0, ?_⟩
    simp (maxSteps := 2000000) -implicitDefEqProofs [-getElem?_pos, List.getElem?_cons_zero, List.getElem?_cons_succ, go_sem, eqV, plen, loadV, storeV, assignV, emB, h5i, hLl]
  have hbad : ∀ p ∈ l, p.bad = true → pApp b l bd = ([], 2) := by
    intro p hp hb
    unfold pApp
    rw [if_neg h5, if_pos (List.any_eq_true.2 ⟨p, hp, hb⟩)]
  have h5i : ¬ (65535 : Int) < (l.length : Int) := by omega
  apply Tells.seq (fr' := [(0, .ro c (.pb b) 1), (1, .ro d (.pr 15 L) 2), (2, .bool bd), (19, .bool false)]) (H' := [some nilB])
  · (refine ⟨0, ?_⟩; simp (maxSteps := 2000000) -implicitDefEqProofs [-getElem?_pos, List.getElem?_cons_zero, List.getElem?_cons_succ, go_sem, eqV, plen, loadV, storeV, assignV, emB, h5i, hLl])
  apply Tells.assoc
  apply Tells.seq (fr' := pcFr (.ro c (.pb b) 1) (.ro d (.pr 15 L) 2) bd l.length 0) (H' := [some nilB])
  · (refine ⟨0, ?_⟩; simp (maxSteps := 2000000) -implicitDefEqProofs [-getElem?_pos, List.getElem?_cons_zero, List.getElem?_cons_succ, go_sem, eqV, plen, loadV, storeV, assignV, emB, pcFr, hLl])
  generalize hHH : ([some nilB] : AM.Heap) = HH
  have hmem : ∀ (i : Nat) p, l[i]? = some p → p ∈ l := fun i p h => List.mem_of_getElem? h
  apply Tells.blockThen (P := fun fr H => (∀ p ∈ l, p.bad = false) ∧ fr = pcFr (.ro c (.pb b) 1) (.ro d (.pr 15 L) 2) bd l.length l.length ++ [(23, .bool false)])
  · refine Tells.loop (σ := Nat × AM.Heap) (fun s => s.1 ≤ l.length ∧ ∀ j p, j < s.1 → l[j]? = some p → p.bad = false) (fun s => pcFr (.ro c (.pb b) 1) (.ro d (.pr 15 L) 2) bd l.length s.1) (fun s => s.2) (fun s => l.length - s.1) ?_ (0, HH) ⟨by simp only; omega, fun j p h => absurd h (by simp only; omega)⟩
    rintro ⟨i, H⟩ ⟨hi, hall⟩
    simp only at hi hall ⊢
    by_cases hin : i = l.length
    · right
      subst hin
      refine ⟨⟨.exit 0, pcFr (.ro c (.pb b) 1) (.ro d (.pr 15 L) 2) bd l.length l.length ++ [(23, .bool false)], H⟩, .inl ⟨rfl, fun p hp => ?_, rfl⟩, by simp, ?_⟩
      · obtain ⟨j, hj, rfl⟩ := List.mem_iff_getElem.1 hp
        exact hall j _ hj (List.getElem?_eq_getElem hj)
      · (refine ⟨0, ?_⟩; simp (maxSteps := 2000000) -implicitDefEqProofs [-getElem?_pos, List.getElem?_cons_zero, List.getElem?_cons_succ, go_sem, eqV, plen, loadV, storeV, pcFr])
    · have hlt : i < l.length := by omega
      have hiI : (i : Int) < (l.length : Int) := by omega
      obtain ⟨p, hp⟩ : ∃ p, l[i]? = some p := ⟨_, List.getElem?_eq_getElem hlt⟩
      obtain ⟨o1, o2, o3⟩ := hl p (hmem i p hp)
      have w1 : IntKind.i64.wrap ((i : Int) + 1) = ((i + 1 : Nat) : Int) := by rw [wrap_i64 (by omega) (by omega)]; omega
      have hrow := hLat i p hp
      have hC := check_ev (v := p.v) (t := p.t) o1 o2 o3 (H ++ [some (pmO p)])
      have hnew : ∀ x : Option AM.Obj, (H ++ [x])[H.length]? = some x := fun x => by simp
      simp only [pmO, Pm.pay] at hC hrow
      simp only [Va.pay, Ty.pay] at hC
      by_cases h0 : chkV p.v p.t = 0
      · rw [h0] at hC
        by_cases hb2 : p.lg = true ∧ p.v.k ≠ 0
        · right
          obtain ⟨hlg, hk⟩ := hb2
          have hkb : (p.v.k != 0) = true := by simpa using hk
          have hbd := hbad p (hmem i p hp) (by unfold Pm.bad; rw [hlg]; simp [hk])
          rw [hlg] at hC hrow
          refine ⟨⟨.ret, [(6, .sl (H.length + 1) 0 0 0), (7, .int .i64 2)], H ++ [some (pmO p)] ++ [some nilB]⟩, .inr ⟨rfl, rfl, H.length + 1, 0, nilB, by rw [hbd]; rfl, by rw [hbd]; rfl, by simp, by rw [hbd]; exact nilB_rw⟩, by simp, ?_⟩
          (refine ⟨0, ?_⟩; simp (maxSteps := 2000000) -implicitDefEqProofs [-getElem?_pos, List.getElem?_cons_zero, List.getElem?_cons_succ, go_sem, eqV, plen, loadV, storeV, pcFr, hiI, hlt, hLl, hrow, pmO, Pm.pay, retagL, retag, retagP, flatCells, splice, scalars, scalar, hnew, mkPm, mkVa, mkTy, hC, hlg, hkb, assignV, emB])
        · left
          refine ⟨(i + 1, H ++ [some (pmO p)]), ⟨by simp only; omega, fun j q hj hq => ?_⟩, ?_, by simp only; omega⟩
          · simp only at hj
            by_cases hji : j = i
            · subst hji; rw [hp] at hq; obtain rfl := Option.some.inj hq
              unfold Pm.bad
              simp [h0]
              intro h; exact Classical.byContradiction fun h2 => hb2 ⟨h, h2⟩
            · exact hall j q (by omega) hq
          · cases hlg : p.lg with
            | false =>
              rw [hlg] at hC hrow
              (refine ⟨0, ?_⟩; simp (maxSteps := 2000000) -implicitDefEqProofs [-getElem?_pos, List.getElem?_cons_zero, List.getElem?_cons_succ, go_sem, eqV, plen, loadV, storeV, pcFr, hiI, hlt, hLl, hrow, pmO, Pm.pay, retagL, retag, retagP, flatCells, splice, scalars, scalar, hnew, mkPm, mkVa, mkTy, hC, hlg, w1])
            | true =>
              have hk : p.v.k = 0 := Classical.byContradiction fun h2 => hb2 ⟨hlg, h2⟩
              rw [hlg, hk] at hC hrow
              (refine ⟨0, ?_⟩; simp (maxSteps := 2000000) -implicitDefEqProofs [-getElem?_pos, List.getElem?_cons_zero, List.getElem?_cons_succ, go_sem, eqV, plen, loadV, storeV, pcFr, hiI, hlt, hLl, hrow, pmO, Pm.pay, retagL, retag, retagP, flatCells, splice, scalars, scalar, hnew, mkPm, mkVa, mkTy, hC, hlg, hk, w1])
      · right
        have h0b : (chkV p.v p.t != 0) = true := by simpa using h0
        have hbd := hbad p (hmem i p hp) (by unfold Pm.bad; simp [h0])
        refine ⟨⟨.ret, [(6, .sl (H.length + 1) 0 0 0), (7, .int .i64 2)], H ++ [some (pmO p)] ++ [some nilB]⟩, .inr ⟨rfl, rfl, H.length + 1, 0, nilB, by rw [hbd]; rfl, by rw [hbd]; rfl, by simp, by rw [hbd]; exact nilB_rw⟩, by simp, ?_⟩
        generalize chkV p.v p.t = ck at *
        (refine ⟨0, ?_⟩; simp (maxSteps := 2000000) -implicitDefEqProofs [-getElem?_pos, List.getElem?_cons_zero, List.getElem?_cons_succ, go_sem, eqV, plen, loadV, storeV, pcFr, hiI, hlt, hLl, hrow, pmO, Pm.pay, retagL, retag, retagP, flatCells, splice, scalars, scalar, hnew, mkPm, mkVa, mkTy, hC, h0b, assignV, emB])
  · rintro fr H ⟨hok, rfl⟩
    have hany : ¬ l.any Pm.bad = true := by
      intro h
      obtain ⟨p, hp, hb⟩ := List.any_eq_true.1 h
      rw [hok p hp] at hb; cases hb
    have hpa : pApp b l bd = if l.length = 0 then (b, 0) else (b ++ paB l bd, 0) := by
      unfold pApp
      rw [if_neg h5, if_neg hany]
    rw [hpa]
    obtain ⟨ob0, hw0, hA0⟩ := clone_ev (H := H) (a := .ro c (.pb b) 1) (b := b) (Byt.ro (.inl rfl) hc) (by omega)
    apply Tells.seq (fr' := [(1, .ro d (.pr 15 L) 2), (2, .bool bd), (10, .sl H.length 0 b.length 0)]) (H' := H ++ [some ob0])
    · (refine ⟨0, ?_⟩; simp (maxSteps := 2000000) -implicitDefEqProofs [-getElem?_pos, List.getElem?_cons_zero, List.getElem?_cons_succ, go_sem, eqV, plen, loadV, storeV, pcFr, hA0, assignV])
    by_cases hl0 : l.length = 0
    · rw [if_pos hl0]
      refine Tells.of (o := ⟨.ret, [(6, .sl H.length 0 b.length 0), (7, .int .i64 0)], H ++ [some ob0]⟩) ?_ ⟨rfl, H.length, 0, ob0, rfl, rfl, by simp, hw0⟩
      apply Run.seq_out (hne := by simp)
      refine ⟨0, ?_⟩
      simp (maxSteps := 2000000) -implicitDefEqProofs [-getElem?_pos, List.getElem?_cons_zero, List.getElem?_cons_succ, go_sem, eqV, plen, loadV, storeV, assignV, hLl, hl0]
    rw [if_neg hl0]
    have hl0b : ((l.length : Int) == 0) = false := beq_eq_false_iff_ne.2 (by omega)
    apply Tells.seq (fr' := [(1, .ro d (.pr 15 L) 2), (2, .bool bd), (10, .sl H.length 0 b.length 0), (47, .bool false)]) (H' := H ++ [some ob0])
    · (refine ⟨0, ?_⟩; simp (maxSteps := 2000000) -implicitDefEqProofs [-getElem?_pos, List.getElem?_cons_zero, List.getElem?_cons_succ, go_sem, eqV, plen, loadV, storeV, assignV, hLl, hl0b])
    have hM := mkB (n := (l.length + 7) / 8) (by omega) (H ++ [some ob0])
    have w7 : IntKind.i64.wrap ((l.length : Int) + 7) = ((l.length + 7 : Nat) : Int) := by rw [wrap_i64 (by omega) (by omega)]; omega
    have w8 : IntKind.i64.wrap (((l.length + 7 : Nat) : Int) / 8) = (((l.length + 7) / 8 : Nat) : Int) := by
      rw [wrap_i64 (by omega) (by omega)]; omega
    simp only [List.length_append, List.length_cons, List.length_nil, Nat.zero_add] at hM
    generalize hm8 : (l.length + 7) / 8 = m8 at *
    generalize hn7 : l.length + 7 = n7 at *
    apply Tells.seq (fr' := [(1, .ro d (.pr 15 L) 2), (2, .bool bd), (10, .sl H.length 0 b.length 0), (11, .sl (H.length + 1) 0 m8 0)]) (H' := H ++ [some ob0] ++ [some ⟨.pb (List.replicate m8 0), 0, some m8, 1, true, false, 0⟩])
    · (refine ⟨0, ?_⟩; simp (maxSteps := 2000000) -implicitDefEqProofs [-getElem?_pos, List.getElem?_cons_zero, List.getElem?_cons_succ, go_sem, eqV, plen, loadV, storeV, assignV, hLl, w7, w8, hM])
    have := piece (p2_tail b d l bd H.length m8 (by omega) ob0 (H ++ [some ob0] ++ [some (bitO m8 (zer m8))]) hw0 hb (by omega) hR hl hok (at_cat (by simp)) (by rw [show H.length + 1 = (H ++ [some ob0]).length by simp]; simp) (by simp)) _ rfl
    unfold pmL at this
    rw [hLm] at this
    exact this

end

theorem pm_ids : ∀ l : List Pm, idsL (l.map Pm.pay) = []
  | [] => rfl
  | p :: l => by rw [List.map_cons, idsL, pm_ids l]; simp [Pm.pay, ids, idsL]

theorem args_pm {f i : Nat} {H : AM.Heap} {d t : Nat} {l : List Pm} {r ys : List AV} {xs : List Lent} (hr : lendArgs X f H (i + 1) r = some (ys, xs)) (hrw : X.rw f i = false := by rfl) :
    lendArgs X f H i (.ro d (pmL l) t :: r) = some (.ro d (pmL l) (i + 1) :: ys, ⟨[], [t]⟩ :: xs) := by
  simp only [lendArgs, hrw, hr, lendV, lend1]

theorem coPm {l : List Pm} {c t : Nat} {r : List AV} {ts : List TypeId} : coerce X (.ro c (pmL l) t :: r) (35 :: ts) = .ro c (pmL l) t :: coerce X r ts := by
  simp [coerce, pmL]

theorem pappend_ev {H : AM.Heap} {a : AV} {b : List UInt8} {d t : Nat} {l : List Pm} {bd : Bool} (h : Byt H a b) (hb : b.length ≤ 2000000) (hl : ∀ p ∈ l, p.ok) (hR : (restB l).length ≤ 1000000) :
    ∃ ob, Rw (.pb (pApp b l bd).1) 0 ob ∧ evT X 8 [a, .ro d (pmL l) t, .bool bd] H = some (.tup [.sl H.length 0 (pApp b l bd).1.length 0, .int .i64 (pApp b l bd).2], H ++ [some ob]) := by
  obtain ⟨c, p, xl, hp, hc, hx'⟩ := args_byt (C := X) (f := 8) (i := 0) rfl h (args_pm (f := 8) (i := 1) (d := d) (t := t) (l := l) (args_flat (i := 2) (a := .bool bd) rfl rfl (args_nil 3)))
  obtain ⟨code, hcode, hr⟩ := pappend_code c b d l bd hc hb hl hR
  obtain ⟨ob, q1, q2⟩ := Ev1.newB (H := H) (n := (pApp b l bd).1.length) (l := (pApp b l bd).1) (rest := [.int .i64 (pApp b l bd).2]) (evT_below X) Try.func8 hcode hx' (by simp [idsL, ids]) (by simp [gtag]) rfl rfl rfl (by
    obtain ⟨o, ⟨he, o1, g, ob, q1, q2, q3, q4⟩, hrun⟩ := hr
    exact ⟨o, ⟨he, o1, g, ob, by show some [getF o.fr 6, getF o.fr 7] = _; rw [q1, q2], q3, q4⟩, by rw [par8, coB hp, coPm]; exact hrun⟩)
  exact ⟨ob, q1, evT_eq q2⟩

end Go.Proofs.Ytbmddnokokoofaa

/- Walks: lives. -/
namespace Go.Proofs.Ytbmddnokokoofaa
open Go.AM

theorem lives_ev (H : AM.Heap) : evT X 10 [] H = some (.bool true, H) :=
  evT_eq (Ev1.triedP (T := fun _ _ _ => none) Below.none (n := 400) (f := 10) (args := []) (v := .bool true) (by kernel_rfl) rfl H)

end Go.Proofs.Ytbmddnokokoofaa

/- Walks: small, lives, the law ParamCalls. -/
namespace Go.Proofs.Ytbmddnokokoofaa
open Go.AM
set_option linter.unusedSimpArgs false
set_option linter.unusedVariables false

/-- the texts' lengths -/
def sumT (l : List Pm) : Nat := (l.map fun p => p.v.t.length).sum
def smL (l : List Pm) : Bool := decide (l.length ≤ 60) && decide (sumT (l.take 61) ≤ 3000)

theorem sumT_le {l : List Pm} (h : ∀ p ∈ l, p.v.t.length ≤ 1048576) : ∀ i, sumT (l.take i) ≤ 1048576 * i
  | 0 => by simp [sumT]
  | i + 1 => by
    have := sumT_le h i
    rw [List.take_add_one]
    cases hp : l[i]? with
    | none => simp only [Option.toList_none, List.append_nil]; omega
    | some p =>
      have := h p (List.mem_of_getElem? hp)
      simp only [Option.toList_some, sumT, List.map_append, List.sum_append, List.map_cons, List.map_nil, List.sum_cons, List.sum_nil] at *
      omega

section
variable (d t : Nat) (l : List Pm)

def smFr (i : Nat) : AM.Frame := [(0, .ro d (.pr 15 (l.map Pm.pay)) t), (3, .int .i64 (sumT (l.take i) : Nat)), (4, .int .i64 (i : Nat))]

set_option maxRecDepth 100000 in
set_option maxHeartbeats 4000000 in
theorem small_code (hl : ∀ p ∈ l, p.v.t.length ≤ 1048576) : ∃ code, Try.f12.body = some code ∧
    Tells (Rets fun fr H => getF fr 2 = .bool (smL l)) X (evT X) 12 0 code [(0, .ro d (pmL l) t)] [] := by
  refine ⟨_, rfl, ?_⟩
  have hLl : (l.map Pm.pay).length = l.length := List.length_map _
  unfold pmL
  apply Tells.seq (fr' := [(0, .ro d (.pr 15 (l.map Pm.pay)) t)]) (H' := [])
  · generalize l.map Pm.pay = L at *
    (refine ⟨0, ?_⟩; simp (maxSteps := 2000000) -implicitDefEqProofs [-getElem?_pos, List.getElem?_cons_zero, List.getElem?_cons_succ, go_sem, eqV, plen, loadV, storeV])
  apply Tells.seq (fr' := [(0, .ro d (.pr 15 (l.map Pm.pay)) t), (3, .int .i64 0)]) (H' := [])
  · generalize l.map Pm.pay = L at *
    (refine ⟨0, ?_⟩; simp (maxSteps := 2000000) -implicitDefEqProofs [-getElem?_pos, List.getElem?_cons_zero, List.getElem?_cons_succ, go_sem, eqV, plen, loadV, storeV])
  apply Tells.assoc
  apply Tells.seq (fr' := smFr d t l 0) (H' := [])
  · unfold smFr
    generalize l.map Pm.pay = L at *
    (refine ⟨0, ?_⟩; simp (maxSteps := 2000000) -implicitDefEqProofs [-getElem?_pos, List.getElem?_cons_zero, List.getElem?_cons_succ, go_sem, eqV, plen, loadV, storeV, sumT])
  apply Tells.andThen (P := fun fr H => H = [] ∧ fr = smFr d t l (min l.length 61) ++ [(12, .bool false)])
  · apply Tells.block
    refine Tells.loopP (fun k fr H => ∃ i, k = 61 - i ∧ i ≤ 61 ∧ i ≤ l.length ∧ H = [] ∧ fr = smFr d t l i) ?_ (k := 61) ⟨0, rfl, by omega, by omega, rfl, rfl⟩
    rintro k fr H ⟨i, rfl, hi, hil, rfl, rfl⟩
    have hs := sumT_le hl i
    apply Tells.assoc
    by_cases hin : i = l.length
    · refine Tells.of (o := ⟨.exit 0, smFr d t l i ++ [(12, .bool false)], []⟩) ⟨0, ?_⟩ (.inr ⟨by simp, rfl, rfl, by rw [show min l.length 61 = i by omega]⟩)
      have hni : ¬ (i : Int) < (l.length : Int) := by omega
      unfold smFr
      generalize l.map Pm.pay = L at *
      generalize sumT (l.take i) = n at *
      simp (maxSteps := 2000000) -implicitDefEqProofs [-getElem?_pos, List.getElem?_cons_zero, List.getElem?_cons_succ, go_sem, eqV, plen, loadV, storeV, hLl, hni]
    have hiI : (i : Int) < (l.length : Int) := by omega
    by_cases h61 : i = 61
    · refine Tells.of (o := ⟨.exit 0, smFr d t l i ++ [(12, .bool false)], []⟩) ⟨0, ?_⟩ (.inr ⟨by simp, rfl, rfl, by rw [show min l.length 61 = i by omega]⟩)
      have hni : ¬ (i : Int) ≤ 60 := by omega
      unfold smFr
      generalize l.map Pm.pay = L at *
      generalize sumT (l.take i) = n at *
      simp (maxSteps := 2000000) -implicitDefEqProofs [-getElem?_pos, List.getElem?_cons_zero, List.getElem?_cons_succ, go_sem, eqV, plen, loadV, storeV, hLl, hiI, hni]
    have h60 : (i : Int) ≤ 60 := by omega
    obtain ⟨p, hp⟩ : ∃ p, l[i]? = some p := ⟨_, List.getElem?_eq_getElem (show i < l.length by omega)⟩
    have hlt : i < l.length := by omega
    have hrow : (l.map Pm.pay)[i]? = some p.pay := by rw [List.getElem?_map, hp]; rfl
    have hpl := hl p (List.mem_of_getElem? hp)
    have hsn : sumT (l.take (i + 1)) = sumT (l.take i) + p.v.t.length := by
      rw [List.take_add_one, hp]; simp [sumT]
    have w1 : IntKind.i64.wrap ((i : Int) + 1) = ((i + 1 : Nat) : Int) := by rw [wrap_i64 (by omega) (by omega)]; omega
    have w2 : IntKind.i64.wrap ((sumT (l.take i) : Nat) + (p.v.t.length : Int)) = ((sumT (l.take (i + 1)) : Nat) : Int) := by
      rw [hsn, wrap_i64 (by omega) (by omega)]; omega
    refine Tells.of (o := ⟨.normal, smFr d t l (i + 1), []⟩) ⟨0, ?_⟩ (.inl ⟨rfl, 61 - (i + 1), by omega, i + 1, rfl, by omega, by omega, rfl, rfl⟩)
    unfold smFr
    generalize l.map Pm.pay = L at *
    generalize sumT (l.take (i + 1)) = n1 at *
    generalize sumT (l.take i) = n at *
    simp only [Pm.pay] at hrow
    simp (maxSteps := 2000000) -implicitDefEqProofs [-getElem?_pos, List.getElem?_cons_zero, List.getElem?_cons_succ, go_sem, eqV, plen, loadV, storeV, hLl, hiI, h60, hlt, hrow, w1, w2]
  rintro fr H ⟨rfl, rfl⟩
  have hsm : smL l = (decide (l.length ≤ 60) && decide (sumT (l.take (min l.length 61)) ≤ 3000)) := by
    unfold smL
    by_cases h : l.length ≤ 60
    · rw [show min l.length 61 = l.length by omega, List.take_length, List.take_of_length_le (by omega)]
    · simp [h]
  refine Tells.of (o := ⟨.ret, [(2, .bool (smL l))], []⟩) ⟨0, ?_⟩ ⟨rfl, rfl⟩
  rw [hsm]
  unfold smFr
  generalize l.map Pm.pay = L at *
  generalize sumT (l.take (min l.length 61)) = n at *
  generalize min l.length 61 = m at *
  by_cases h : l.length ≤ 60
  · have hi : (l.length : Int) ≤ 60 := by omega
    by_cases h3 : n ≤ 3000
    · have h3i : (n : Int) ≤ 3000 := by omega
      simp (maxSteps := 2000000) -implicitDefEqProofs [-getElem?_pos, List.getElem?_cons_zero, List.getElem?_cons_succ, go_sem, eqV, plen, loadV, storeV, hLl, hi, h, h3, h3i]
    · have h3i : ¬ (n : Int) ≤ 3000 := by omega
      simp (maxSteps := 2000000) -implicitDefEqProofs [-getElem?_pos, List.getElem?_cons_zero, List.getElem?_cons_succ, go_sem, eqV, plen, loadV, storeV, hLl, hi, h, h3, h3i]
  · have hi : ¬ (l.length : Int) ≤ 60 := by omega
    simp (maxSteps := 2000000) -implicitDefEqProofs [-getElem?_pos, List.getElem?_cons_zero, List.getElem?_cons_succ, go_sem, eqV, plen, loadV, storeV, hLl, hi, h]

end

theorem small_ev {H : AM.Heap} {d t : Nat} {l : List Pm} (hl : ∀ p ∈ l, p.v.t.length ≤ 1048576) :
    evT X 12 [.ro d (pmL l) t] H = some (.bool (smL l), H) := by
  obtain ⟨code, hcode, o, ⟨he, h2⟩, hr⟩ := small_code d 1 l hl
  exact evT_eq (Ev1.toldP (l := [.bool (smL l)]) (evT_below X) Try.func12 hcode (args_pm (args_nil 1)) (by simp [idsL, ids]) (by simp [gtag]) rfl rfl rfl ⟨o, ⟨he, by show some [getF o.fr 2] = _; rw [h2]⟩, by rw [par12, coPm]; exact hr⟩)

end Go.Proofs.Ytbmddnokokoofaa

/- Walks: the law ParamBack: its parts. -/
namespace Go.Proofs.Ytbmddnokokoofaa
open Go.AM
set_option linter.unusedSimpArgs false
set_option linter.unusedVariables false

/-- a place among n -/
def pkI (x n : Int) : Int := if Int.tmod x n < 0 then Int.tmod x n + n else Int.tmod x n
theorem pk_in {x n : Int} (h : 0 < n) : 0 ≤ pkI x n ∧ pkI x n < n := by
  have h1 := Int.lt_tmod_of_pos x h
  have h2 := Int.tmod_lt_of_pos x h
  unfold pkI
  split <;> omega

set_option maxRecDepth 100000 in
theorem pick_code (x : Int) (n : Nat) (h0 : 0 < n) (hn : n ≤ 100000000) : ∃ code, Try.f18.body = some code ∧
    Tells (Rets fun fr H => getF fr 4 = .int .i64 (pkI x (n : Nat))) X (evT X) 18 0 code [(0, .int .i64 x), (1, .int .i64 (n : Nat))] [] := by
  refine ⟨_, rfl, ?_⟩
  have hb1 := Int.lt_tmod_of_pos x (show (0 : Int) < (n : Nat) by omega)
  have hb2 := Int.tmod_lt_of_pos x (show (0 : Int) < (n : Nat) by omega)
  have hz : ¬ ((n : Int) = 0) := by omega
  have hz2 : ¬ (n = 0) := by omega
  unfold pkI
  generalize hr : Int.tmod x (n : Int) = r at *
  have w1 : IntKind.i64.wrap r = r := wrap_i64 (by omega) (by omega)
  have w2 : r < 0 → IntKind.i64.wrap (r + (n : Int)) = r + (n : Int) := fun h => wrap_i64 (by omega) (by omega)
  by_cases hn : r < 0
  · rw [if_pos hn]
    have w2 := w2 hn
    refine Tells.of (o := ⟨.ret, [(4, .int .i64 (r + (n : Nat)))], []⟩) ⟨0, ?_⟩ ⟨rfl, rfl⟩
    simp (maxSteps := 2000000) -implicitDefEqProofs [-getElem?_pos, List.getElem?_cons_zero, List.getElem?_cons_succ, go_sem, eqV, plen, loadV, storeV, hz, hz2, hr, w1, hn, w2]
  · rw [if_neg hn]
    refine Tells.of (o := ⟨.ret, [(4, .int .i64 r)], []⟩) ⟨0, ?_⟩ ⟨rfl, rfl⟩
    simp (maxSteps := 2000000) -implicitDefEqProofs [-getElem?_pos, List.getElem?_cons_zero, List.getElem?_cons_succ, go_sem, eqV, plen, loadV, storeV, hz, hz2, hr, w1, hn]
theorem pick_ev {H : AM.Heap} (x : Int) (n : Nat) (h0 : 0 < n) (hn : n ≤ 100000000) : evT X 18 [.int .i64 x, .int .i64 (n : Nat)] H = some (.int .i64 (pkI x (n : Nat)), H) := by
  obtain ⟨code, hcode, o, ⟨he, h4⟩, hr⟩ := pick_code x n h0 hn
  exact evT_eq (Ev1.toldP (l := [.int .i64 (pkI x (n : Nat))]) (evT_below X) Try.func18 hcode (args_flat rfl rfl (args_flat rfl rfl (args_nil 2))) rfl (by simp [gtag]) rfl rfl rfl ⟨o, ⟨he, by show some [getF o.fr 4] = _; rw [h4]⟩, by rw [par18]; exact hr⟩)

/-- an empty slice of truths -/
def nilG : AM.Obj := ⟨.pc [], 0, .none, 0, true, false, 0⟩
theorem nilG_rw : Rw (.pc []) 0 nilG := ⟨rfl, rfl, rfl, rfl, rfl⟩
theorem emG : rowOf (emptyRow X 4) .none 0 = nilG := by kernel_rfl
theorem bsBl (H : AM.Heap) (x : Bool) : buildSliceV X H 44 1 [(0, .bool x)] = some (.ro 1 (.pc [.bool x]) 0, H) := by kernel_rfl

section
variable (d : Nat) (l : List Pm) (bd : Bool) (cut : Int) (y : Nat) (N : Nat)

/-- a round's frame -/
def bkFr (i : Nat) : AM.Frame := [(0, .ro d (.pr 15 (l.map Pm.pay)) 1), (1, .bool bd), (2, .int .i64 cut), (3, .int .u8 (y : Nat)), (9, .sl 0 0 N 0), (11, .sl 1 0 i i), (12, .sl 2 0 i i), (13, .int .i64 (i : Nat))]
def bkHp (ob1 : AM.Obj) (i : Nat) (H : AM.Heap) : Prop := ∃ oT oG, H = [some ob1, some oT, some oG] ∧ Rw (.pr 2 ((tyP (l.take i)).map Ty.pay)) i oT ∧ Rw (.pc ((lgP (l.take i)).map .bool)) i oG

set_option maxRecDepth 100000 in
set_option maxHeartbeats 4000000 in
theorem bk_round (ob1 : AM.Obj) (i : Nat) (H : AM.Heap) (p : Pm) (hl : l.length ≤ 1000) (hp : l[i]? = some p) (hH : bkHp l ob1 i H) :
    ∃ code, ((Try.f6.body).bind (codeAt [1, 1, 1, 1, 1, 1, 1, 0, 1, 0, 0])) = some code ∧ Tells (Goes fun fr H' => fr = bkFr d l bd cut y N (i + 1) ∧ bkHp l ob1 (i + 1) H') X (evT X) 6 0 code (bkFr d l bd cut y N i) H := by
  refine ⟨_, rfl, ?_⟩
  obtain ⟨oT, oG, rfl, hT, hG⟩ := hH
  have hlt := at_lt hp
  have hiI : (i : Int) < (l.length : Int) := by omega
  have w1 : IntKind.i64.wrap ((i : Int) + 1) = ((i + 1 : Nat) : Int) := by rw [wrap_i64 (by omega) (by omega)]; omega
  have hrow : (l.map Pm.pay)[i]? = some p.pay := by rw [List.getElem?_map, hp]; rfl
  have hL : (l.map Pm.pay).length = l.length := List.length_map _
  have htk : l.take (i + 1) = l.take i ++ [p] := by rw [List.take_add_one, hp]; rfl
  have hlT : ((tyP (l.take i)).map Ty.pay).length = i := by simp [tyP]; omega
  have hlG : ((lgP (l.take i)).map AV.bool).length = i := by simp [lgP]; omega
  obtain ⟨oT', hT', hA⟩ := app_rows (C := X) (T := 43) (e := 27) (es := 2) (H := [some ob1, some oT, some oG]) (o := 1) (m := [p.t.pay]) (src := .ro 1 (.pr 2 [p.t.pay]) 0) (by simp) (by simp) (by omega) (by simp) (by simp) rfl hT rfl (by rw [hlT]; simp; omega)
  rw [hlT] at hA
  obtain ⟨oG', hG', hA2⟩ := app_cells (C := X) (T := 44) (e := 4) (H := [some ob1, some oT', some oG]) (o := 2) (m := [.bool p.lg]) (src := .ro 1 (.pc [.bool p.lg]) 0) (by simp) (by simp) (by simp) (by simp) rfl hG rfl (by rw [hlG]; simp; omega)
  rw [hlG] at hA2
  have hT2 : Rw (.pr 2 ((tyP (l.take (i + 1))).map Ty.pay)) (i + 1) oT' := by rw [htk]; unfold tyP at hT' ⊢; rw [List.map_append, List.map_append]; exact hT'
  have hG2 : Rw (.pc ((lgP (l.take (i + 1))).map .bool)) (i + 1) oG' := by rw [htk]; unfold lgP at hG' ⊢; rw [List.map_append, List.map_append]; exact hG'
  refine Tells.of (o := ⟨.normal, bkFr d l bd cut y N (i + 1), [some ob1, some oT', some oG']⟩) ⟨0, ?_⟩ ⟨rfl, rfl, oT', oG', rfl, hT2, hG2⟩
  have hbs := fun H k u => bsTy H k u
  have hbg := fun H x => bsBl H x
  unfold bkFr
  generalize l.map Pm.pay = L at *
  simp only [Pm.pay] at hrow
  simp only [Ty.pay, List.length_cons, List.length_nil, Nat.zero_add, upd, List.set_cons_succ, List.set_cons_zero] at hA
  simp only [List.length_cons, List.length_nil, Nat.zero_add, upd, List.set_cons_succ, List.set_cons_zero] at hA2
  simp (maxSteps := 2000000) -implicitDefEqProofs [-getElem?_pos, List.getElem?_cons_zero, List.getElem?_cons_succ, go_sem, eqV, plen, loadV, storeV, hiI, hlt, hL, hrow, w1, hbs, hbg, hA, hA2, mkTy, mkPm, assignV, retagL, retag, retagP, flatCells, splice, scalars, scalar]

end

end Go.Proofs.Ytbmddnokokoofaa
