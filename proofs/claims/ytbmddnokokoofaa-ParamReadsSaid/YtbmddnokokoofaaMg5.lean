/- R8 to S5: texts of this claim, one behind the other; what each shows stands at its head. -/
import Derived.Test.YtbmddnokokoofaaAm3
import Derived.Test.YtbmddnokokoofaaMg4
/- Walks: parameters read: their types. -/
namespace Go.Proofs.Ytbmddnokokoofaa
open Go.AM
set_option linter.unusedSimpArgs false
set_option linter.unusedVariables false

theorem slTy {ct t n : Nat} {l : List AV} (hn : n ≤ l.length) (H : AM.Heap) : sliceV X H 43 (.ro ct (.pr 2 l) t) none (some (.int .i64 (n : Nat))) = some (.ro (if ct = 0 then 0 else 2) (.pr 2 (l.take n)) t) := by
  have hnl : (n : Int) ≤ (l.length : Int) := by omega
  have hT : und X 43 = .slice 27 := by simp
  have hs : sizeT X 27 = 2 := by simp
  simp [sliceV, bound, plen, pesz, psub, hnl, hn, hT, hs]

theorem tyF_len (b : List UInt8) : ∀ n i, tyF b n i = 0 → 0 < n → 2 * (i + n) ≤ b.length
  | 0, i, _, h => by omega
  | n + 1, i, h, _ => by
    rw [tyF] at h
    by_cases he : tyE b i = 0
    · rw [if_neg (by simpa using he)] at h
      cases n with
      | zero =>
        unfold tyE at he
        split at he
        · cases he
        · split at he
          · cases he
          · split at he
            · cases he
            · omega
      | succ n => have := tyF_len b (n + 1) (i + 1) h (by omega); omega
    · rw [if_pos he] at h; exact absurd h he

section
variable (c : Nat) (r : List UInt8) (ts : List Ty) (ct tt fi : Nat)

/-- a round's frame -/
def pkFr (i : Nat) : AM.Frame := [(2, .ro ct (.pr 2 (ts.map Ty.pay)) tt), (8, .sl 2 0 0 0), (11, .fn 22 [.ptr 1 0 0 0]), (13, .fn 23 [.ptr 0 0 0 0]), (15, .ro c (.pb r) 1), (16, .int .u8 (fi : Nat)), (85, .ro ct (.pr 2 (ts.map Ty.pay)) tt), (86, .int .i64 (ts.length : Nat)), (87, .int .i64 (i : Nat))]

set_option maxRecDepth 100000 in
set_option maxHeartbeats 4000000 in
theorem pk_round (i : Nat) (H : AM.Heap) (t : Ty) (hn : ts.length ≤ 65535) (ht : ts[i]? = some t) (htt : t.t < 256) :
    ∃ code, ((Try.f9.body).bind (codeAt [1, 1, 1, 1, 1, 1, 1, 1, 1, 1, 1, 1, 0, 1, 0, 1, 0, 1, 1, 1, 0, 0])) = some code ∧
    Tells (fun o => (kn t.t = true ∧ o.ex = .normal ∧ o.fr = pkFr c r ts ct tt fi (i + 1) ∧ o.H = H ++ [some (tyO t)]) ∨ (kn t.t = false ∧ prE 5 o)) X (evT X) 9 0 code (pkFr c r ts ct tt fi i) H := by
  refine ⟨_, rfl, ?_⟩
  have hlt := at_lt ht
  have hiI : (i : Int) < (ts.length : Int) := by omega
  have hrow : (ts.map Ty.pay)[i]? = some (.pc [.int .u8 (t.t : Nat), .bool t.u]) := by rw [List.getElem?_map, ht]; rfl
  have hL : (ts.map Ty.pay).length = ts.length := List.length_map _
  have hnew : ∀ x : Option AM.Obj, (H ++ [x])[H.length]? = some x := fun x => by simp
  have hnew2 : (H ++ [some (tyO t), some nilP])[H.length + 1]? = some (some nilP) := by simp
  have w1 : IntKind.i64.wrap ((i : Int) + 1) = ((i + 1 : Nat) : Int) := by rw [wrap_i64 (by omega) (by omega)]; omega
  have hK := known_ev htt (H ++ [some (tyO t)])
  unfold pkFr
  generalize ts.map Ty.pay = L at *
  simp only [tyO, Ty.pay] at hK
  cases hk : kn t.t with
  | true =>
    rw [hk] at hK
    refine Tells.of (o := ⟨.normal, _, H ++ [some (tyO t)]⟩) ⟨0, ?_⟩ (.inl ⟨rfl, rfl, rfl, rfl⟩)
    simp (maxSteps := 2000000) -implicitDefEqProofs [-getElem?_pos, List.getElem?_cons_zero, List.getElem?_cons_succ, go_sem, eqV, plen, loadV, storeV, tyO, Ty.pay, mkTy, hlt, hiI, hL, hrow, hnew, w1, hK, retagL, retag, retagP, flatCells, splice, scalars, scalar]
  | false =>
    rw [hk] at hK
    refine Tells.of (o := ⟨.ret, [(8, .sl (H.length + 1) 0 0 0), (9, .bool false), (10, .int .i64 5)], H ++ [some (tyO t), some nilP]⟩) ⟨0, ?_⟩ (.inr ⟨rfl, by decide, rfl, H.length + 1, rfl, rfl, rfl, hnew2⟩)
    simp (maxSteps := 2000000) -implicitDefEqProofs [-getElem?_pos, List.getElem?_cons_zero, List.getElem?_cons_succ, go_sem, eqV, plen, loadV, storeV, tyO, Ty.pay, mkTy, hlt, hiI, hL, hrow, hnew, w1, hK, assignV, emP, retagL, retag, retagP, flatCells, splice, scalars, scalar]

set_option maxRecDepth 100000 in
theorem pk_loop (H0 : AM.Heap) (hn : ts.length ≤ 65535) (htt : ∀ t ∈ ts, t.t < 256) :
    ∃ code, ((Try.f9.body).bind (codeAt [1, 1, 1, 1, 1, 1, 1, 1, 1, 1, 1, 1, 0, 1, 0, 1, 0, 1, 1, 1])) = some code ∧
    Tells (Or2 (fun fr H => ts.any (fun t => !kn t.t) = false ∧ fr = pkFr c r ts ct tt fi ts.length ++ [(88, .bool false)] ∧ ∃ ex, H = H0 ++ ex) (fun o => ts.any (fun t => !kn t.t) = true ∧ prE 5 o)) X (evT X) 9 0 code (pkFr c r ts ct tt fi 0) H0 := by
  refine ⟨_, rfl, ?_⟩
  apply (Tells.blockOr (Q := fun o => ts.any (fun t => !kn t.t) = true ∧ prE 5 o))
  refine Tells.loopP (fun k fr H => ∃ i, k = ts.length - i ∧ i ≤ ts.length ∧ fr = pkFr c r ts ct tt fi i ∧ (∃ ex, H = H0 ++ ex) ∧ ∀ j t, j < i → ts[j]? = some t → kn t.t = true) ?_ (k := ts.length) ⟨0, rfl, by omega, rfl, ⟨[], by simp⟩, fun j t h => absurd h (by omega)⟩
  rintro k fr H ⟨i, rfl, hi, rfl, ⟨ex, rfl⟩, hall⟩
  by_cases hin : i = ts.length
  · subst hin
    have hany : ts.any (fun t => !kn t.t) = false := by
      rw [List.any_eq_false]
      intro t ht
      obtain ⟨j, hj, rfl⟩ := List.mem_iff_getElem.1 ht
      rw [hall j _ hj (List.getElem?_eq_getElem hj)]; simp
    refine Tells.of (o := ⟨.exit 3, pkFr c r ts ct tt fi ts.length ++ [(88, .bool false)], H0 ++ ex⟩) ⟨0, ?_⟩ (.inr ⟨by simp, .inl ⟨rfl, hany, rfl, ex, rfl⟩⟩)
    simp (maxSteps := 2000000) -implicitDefEqProofs [-getElem?_pos, List.getElem?_cons_zero, List.getElem?_cons_succ, go_sem, eqV, plen, loadV, storeV, pkFr]
  have hlt : i < ts.length := by omega
  obtain ⟨t, ht⟩ : ∃ t, ts[i]? = some t := ⟨_, List.getElem?_eq_getElem hlt⟩
  refine (piece (pk_round c r ts ct tt fi i (H0 ++ ex) t hn ht (htt t (List.mem_of_getElem? ht))) _ rfl).mono ?_
  rintro o (⟨h1, h2, h3, h4⟩ | ⟨h1, h2⟩)
  · refine .inl ⟨h2, ts.length - (i + 1), by omega, i + 1, rfl, by omega, h3, ⟨ex ++ [some (tyO t)], by rw [h4, List.append_assoc]⟩, fun j t' hj ht' => ?_⟩
    by_cases hji : j = i
    · subst hji; rw [ht] at ht'; obtain rfl := Option.some.inj ht'; exact h1
    · exact hall j t' (by omega) ht'
  · exact .inr ⟨by rw [h2.2.1]; simp, .inr ⟨h2.2.1, List.any_eq_true.2 ⟨t, List.mem_of_getElem? ht, by rw [h1]; rfl⟩, h2⟩⟩

end

end Go.Proofs.Ytbmddnokokoofaa

/- Walks: parameters read: behind the bits. -/
namespace Go.Proofs.Ytbmddnokokoofaa
open Go.AM
set_option linter.unusedSimpArgs false
set_option linter.unusedVariables false

/-- what is told behind the bits -/
def rdMid (b : List UInt8) (m : Nat) (ts : List Ty) (g : List Bool) (r : List UInt8) : List Pm × Bool × Int :=
  match r with
  | [] => ([], false, 4)
  | y :: r =>
    if y.toNat = 0 then (if ts.length < m then ([], false, 5) else if (ts.take m).any (fun t => !kn t.t) then ([], false, 5) else prZ 0 (prF b g (ts.take m) m 0 [] r))
    else if y.toNat = 1 then (if (tyR r m).2 ≠ 0 then ([], false, (tyR r m).2) else prZ 1 (prF b g (tyR r m).1 m 0 [] (r.drop (2 * m))))
    else ([], false, 5)

theorem rdPar_mid (b : List UInt8) (m : Nat) (ts : List Ty) (g : List Bool) (h1 : 1 ≤ m) (h2 : m ≤ 65535) : rdPar b (m : Nat) ts g = if b.length < (m + 7) / 8 then ([], false, 4) else
      if (List.range (8 * ((m + 7) / 8))).any (bxB b g m) then ([], false, 5) else rdMid b m ts g (b.drop ((m + 7) / 8)) := by
  unfold rdPar
  rw [if_neg (by omega), if_neg (by omega)]
  simp only [Int.toNat_natCast]
  rfl

section
variable (c : Nat) (b : List UInt8) (ct : Nat) (ts : List Ty) (cg : Nat) (g : List Bool) (m t1 : Nat)

def pmFr (r : List UInt8) (tl : AM.Frame) : AM.Frame := [(1, .int .i64 (m : Nat)), (2, .ro ct (.pr 2 (ts.map Ty.pay)) 3), (8, .sl 2 0 0 0), (11, .fn 22 [.ptr 1 0 0 0]), (13, .fn 23 [.ptr 0 0 0 0]), (15, .ro c (.pb r) 1)] ++ tl

set_option maxRecDepth 100000 in
set_option maxHeartbeats 4000000 in
theorem pr_kno (r : List UInt8) (hc : c ≠ 0) (hct : ct = 0 → ts = []) (h1 : 1 ≤ m) (hm : m ≤ 65535) (hb : m ≤ 8 * b.length) (htt : ∀ t ∈ ts, t.t < 256) (hr : r.length ≤ 90000000) :
    ∃ code, ((Try.f9.body).bind (codeAt [1, 1, 1, 1, 1, 1, 1, 1, 1, 1, 1, 1])) = some code ∧ Tells (Rets (PrZ (if ts.length < m then ([], false, 5) else if (ts.take m).any (fun t => !kn t.t) then ([], false, 5) else prZ 0 (prF b g (ts.take m) m 0 [] r)))) X (evT X) 9 0 code (pmFr c ct ts m r [(16, .int .u8 0)]) (pbHp c b cg g 1 t1) := by
  refine ⟨_, rfl, ?_⟩
  apply Tells.assoc
  apply Tells.seq (fr' := pmFr c ct ts m r [(16, .int .u8 0), (75, .int .u8 0)]) (H' := pbHp c b cg g 1 t1)
  · unfold pmFr pbHp
    generalize ts.map Ty.pay = L at *
    generalize g.map AV.bool = G at *
    (refine ⟨0, ?_⟩; simp (maxSteps := 2000000) -implicitDefEqProofs [-getElem?_pos, List.getElem?_cons_zero, List.getElem?_cons_succ, go_sem, eqV, plen, loadV, storeV, roB])
  have hL : (ts.map Ty.pay).length = ts.length := List.length_map _
  have hbad : ∀ {o : AM.Out} {e : Int} {x : List Pm × Bool × Int}, prE e o → x = ([], false, e) → Rets (PrZ x) o := by
    rintro o e x ⟨k1, k2, j, k3, k4, k5, k6⟩ h
    rw [h]
    exact ⟨k2, PrZ.bad k3 k4 k5 k6⟩
  by_cases hlt : ts.length < m
  · rw [if_pos hlt]
    have hltI : (ts.length : Int) < (m : Int) := by omega
    refine Tells.of (o := ⟨.ret, [(8, .sl 3 0 0 0), (9, .bool false), (10, .int .i64 5)], [some (roB c (.pb b) 1 1), some (roB cg (.pc (g.map .bool)) 4 t1), some nilP, some nilP]⟩) ?_ (hbad ⟨by decide, rfl, 3, rfl, rfl, rfl, rfl⟩ rfl)
    apply Run.seq_out (hne := by simp)
    unfold pmFr pbHp
    generalize ts.map Ty.pay = L at *
    generalize g.map AV.bool = G at *
    refine ⟨0, ?_⟩
    simp (maxSteps := 2000000) -implicitDefEqProofs [-getElem?_pos, List.getElem?_cons_zero, List.getElem?_cons_succ, go_sem, eqV, plen, loadV, storeV, roB, hL, hltI, assignV, emP]
  rw [if_neg hlt]
  have hltI : ¬ (ts.length : Int) < (m : Int) := by omega
  have htl : (ts.take m).length = m := by rw [List.length_take]; omega
  have htt2 : ∀ t ∈ ts.take m, t.t < 256 := fun t h => htt t (List.mem_of_mem_take h)
  have hct2 : (if ct = 0 then 0 else 2) = 2 := by
    rw [if_neg]
    intro h; have := hct h; subst this; simp at hlt; omega
  have hsl := fun H => slTy (ct := ct) (t := 3) (n := m) (l := ts.map Ty.pay) (by rw [hL]; omega) H
  rw [hct2, ← List.map_take] at hsl
  apply Tells.or (P := fun fr H => (ts.take m).any (fun t => !kn t.t) = false ∧ fr = pkFr c r (ts.take m) 2 3 0 m ++ [(88, .bool false)] ∧ ∃ ex, H = pbHp c b cg g 1 t1 ++ ex)
  case h' =>
    rintro fr H ⟨hany, rfl, ex, rfl⟩
    rw [if_neg (by rw [hany]; simp)]
    have hh : PrHp c b cg g (ts.take m) (.ro 2 (.pr 2 ((ts.take m).map Ty.pay)) 3) (pbHp c b cg g 1 t1 ++ ex) [] 0 := ⟨rfl, ⟨t1, rfl⟩, ⟨nilP, rfl, nilP_rw⟩, .inl ⟨2, 3, rfl⟩⟩
    have := piece (pr_tail c b cg g (ts.take m) 0 (.ro 2 (.pr 2 ((ts.take m).map Ty.pay)) 3) r _ [(85, .ro 2 (.pr 2 ((ts.take m).map Ty.pay)) 3), (86, .int .i64 (m : Nat)), (87, .int .i64 (m : Nat)), (88, .bool false)] hc (by omega) (by omega) htt2 hr (.inl rfl) hh (.inr ⟨_, _, _, rfl⟩)) _ rfl
    rw [htl] at this
    have hfe : pkFr c r (ts.take m) 2 3 0 m ++ [(88, .bool false)] = ([(2, .ro 2 (.pr 2 ((ts.take m).map Ty.pay)) 3), (8, .sl 2 0 0 0), (11, .fn 22 [.ptr 1 0 0 0]), (13, .fn 23 [.ptr 0 0 0 0]), (15, .ro c (.pb r) 1), (16, .int .u8 ((0 : Nat) : Int))] ++ [(85, .ro 2 (.pr 2 ((ts.take m).map Ty.pay)) 3), (86, .int .i64 (m : Nat)), (87, .int .i64 (m : Nat)), (88, .bool false)]) := by
      unfold pkFr
      rw [htl]; rfl
    rw [hfe]
    exact this
  case h =>
  apply Tells.blkOr
  case hq => rintro o ⟨h, _⟩; rw [h]; simp
  apply Tells.seq (fr' := pmFr c ct ts m r [(16, .int .u8 0), (75, .int .u8 0), (76, .bool true)]) (H' := pbHp c b cg g 1 t1)
  · unfold pmFr pbHp
    generalize ts.map Ty.pay = L at *
    generalize g.map AV.bool = G at *
    (refine ⟨0, ?_⟩; simp (maxSteps := 2000000) -implicitDefEqProofs [-getElem?_pos, List.getElem?_cons_zero, List.getElem?_cons_succ, go_sem, eqV, plen, loadV, storeV, roB])
  refine Tells.condT (by simp [evalO, getF, pmFr]) ?_
  apply Tells.assoc
  apply Tells.seq (fr' := pmFr c ct ts m r [(16, .int .u8 0), (81, .bool false)]) (H' := pbHp c b cg g 1 t1)
  · unfold pmFr pbHp
    generalize ts.map Ty.pay = L at *
    generalize g.map AV.bool = G at *
    (refine ⟨0, ?_⟩; simp (maxSteps := 2000000) -implicitDefEqProofs [-getElem?_pos, List.getElem?_cons_zero, List.getElem?_cons_succ, go_sem, eqV, plen, loadV, storeV, roB, hL, hltI, hlt])
  apply Tells.seq (fr' := pmFr c ct ts m r [(16, .int .u8 0), (81, .bool false)]) (H' := pbHp c b cg g 1 t1)
  · exact condF (by simp [evalO, getF, pmFr]) ⟨0, rfl⟩
  apply Tells.seq (fr' := [(2, .ro 2 (.pr 2 ((ts.take m).map Ty.pay)) 3), (8, .sl 2 0 0 0), (11, .fn 22 [.ptr 1 0 0 0]), (13, .fn 23 [.ptr 0 0 0 0]), (15, .ro c (.pb r) 1), (16, .int .u8 0)]) (H' := pbHp c b cg g 1 t1)
  · unfold pmFr pbHp
    simp only [List.map_take] at hsl ⊢
    generalize ts.map Ty.pay = L at *
    generalize g.map AV.bool = G at *
    (refine ⟨0, ?_⟩; simp (maxSteps := 2000000) -implicitDefEqProofs [-getElem?_pos, List.getElem?_cons_zero, List.getElem?_cons_succ, go_sem, eqV, plen, loadV, storeV, roB, hsl, assignV])
  apply Tells.seq (fr' := pkFr c r (ts.take m) 2 3 0 0) (H' := pbHp c b cg g 1 t1)
  · have hL2 : ((ts.take m).map Ty.pay).length = m := by rw [List.length_map, htl]
    unfold pkFr pbHp
    rw [htl]
    generalize (ts.take m).map Ty.pay = L at *
    generalize g.map AV.bool = G at *
    (refine ⟨0, ?_⟩; simp (maxSteps := 2000000) -implicitDefEqProofs [-getElem?_pos, List.getElem?_cons_zero, List.getElem?_cons_succ, go_sem, eqV, plen, loadV, storeV, roB, hL2])
  have := piece (pk_loop c r (ts.take m) 2 3 0 (pbHp c b cg g 1 t1) (by omega) htt2) _ rfl
  rw [htl] at this
  refine this.mono ?_
  rintro o (h | ⟨h1, h2, h3⟩)
  · exact .inl h
  · exact .inr ⟨h1, hbad h3 (if_pos h2)⟩

set_option maxRecDepth 100000 in
set_option maxHeartbeats 4000000 in
theorem pr_told (r : List UInt8) (hc : c ≠ 0) (h1 : 1 ≤ m) (hm : m ≤ 65535) (hb : m ≤ 8 * b.length) (hr : r.length ≤ 90000000) :
    ∃ code, ((Try.f9.body).bind (codeAt [1, 1, 1, 1, 1, 1, 1, 1, 1, 1, 1, 1])) = some code ∧ Tells (Rets (PrZ (if (tyR r m).2 ≠ 0 then ([], false, (tyR r m).2) else prZ 1 (prF b g (tyR r m).1 m 0 [] (r.drop (2 * m)))))) X (evT X) 9 0 code (pmFr c ct ts m r [(16, .int .u8 1)]) (pbHp c b cg g 1 t1) := by
  refine ⟨_, rfl, ?_⟩
  have hbad : ∀ {o : AM.Out} {e : Int} {x : List Pm × Bool × Int}, prE e o → x = ([], false, e) → Rets (PrZ x) o := by
    rintro o e x ⟨k1, k2, j, k3, k4, k5, k6⟩ h
    rw [h]
    exact ⟨k2, PrZ.bad k3 k4 k5 k6⟩
  obtain ⟨ob, hw, hT⟩ := td_ev (H := pbHp c b cg g 1 t1) (a := .ro c (.pb r) 1) (b := r) (n := m) (Byt.ro (.inl rfl) (fun h => absurd h hc)) hm
  have hTl : (tyR r m).2 = 0 → (tyR r m).1 = tysL r m ∧ 2 * m ≤ r.length := by
    intro h
    unfold tyR at h ⊢
    by_cases hf : tyF r m 0 ≠ 0
    · rw [if_pos hf] at h; exact absurd h hf
    · rw [if_neg hf]
      have := tyF_len r m 0 (by simpa using hf) h1
      exact ⟨rfl, by omega⟩
  have htt : ∀ t ∈ tysL r m, t.t < 256 := by
    intro t ht
    unfold tysL at ht
    obtain ⟨i, _, rfl⟩ := List.mem_map.1 ht
    exact (r.getD (2 * i) 0).toNat_lt
  have htl := tysL_len r m
  generalize tyR r m = x at *
  obtain ⟨tl, e⟩ := x
  simp only at hw hT hTl ⊢
  have hw2 : IntKind.i64.wrap (2 * (m : Int)) = ((2 * m : Nat) : Int) := by rw [wrap_i64 (by omega) (by omega)]; omega
  apply Tells.assoc
  apply Tells.seq (fr' := pmFr c ct ts m r [(16, .int .u8 1), (75, .int .u8 1)]) (H' := pbHp c b cg g 1 t1)
  · unfold pmFr pbHp
    generalize ts.map Ty.pay = L at *
    generalize g.map AV.bool = G at *
    (refine ⟨0, ?_⟩; simp (maxSteps := 2000000) -implicitDefEqProofs [-getElem?_pos, List.getElem?_cons_zero, List.getElem?_cons_succ, go_sem, eqV, plen, loadV, storeV, roB])
  apply Tells.or (P := fun fr H => e = 0 ∧ fr = [(2, .sl 3 0 tl.length 0), (8, .sl 2 0 0 0), (11, .fn 22 [.ptr 1 0 0 0]), (13, .fn 23 [.ptr 0 0 0 0]), (15, .ro c (.pb (r.drop (2 * m))) 1), (16, .int .u8 1)] ∧ H = pbHp c b cg g 1 t1 ++ [some ob])
  case h' =>
    rintro fr H ⟨rfl, rfl, rfl⟩
    obtain ⟨rfl, hle⟩ := hTl rfl
    rw [if_neg (by simp)]
    have hh : PrHp c b cg g (tysL r m) (.sl 3 0 (tysL r m).length 0) (pbHp c b cg g 1 t1 ++ [some ob]) [] 0 := ⟨rfl, ⟨t1, rfl⟩, ⟨nilP, rfl, nilP_rw⟩, .inr ⟨3, 0, ob, rfl, by omega, rfl, hw⟩⟩
    have := piece (pr_tail c b cg g (tysL r m) 1 (.sl 3 0 (tysL r m).length 0) (r.drop (2 * m)) _ [] hc (by omega) (by omega) htt (by simp; omega) (.inr rfl) hh (.inl rfl)) _ rfl
    rw [show prF b g (tysL r m) (tysL r m).length 0 [] (r.drop (2 * m)) = prF b g (tysL r m) m 0 [] (r.drop (2 * m)) by rw [htl]] at this
    exact this
  case h =>
  apply Tells.blkOr
  case hq => rintro o ⟨h, _⟩; rw [h]; simp
  apply Tells.seq (fr' := pmFr c ct ts m r [(16, .int .u8 1), (75, .int .u8 1), (76, .bool false)]) (H' := pbHp c b cg g 1 t1)
  · unfold pmFr pbHp
    generalize ts.map Ty.pay = L at *
    generalize g.map AV.bool = G at *
    (refine ⟨0, ?_⟩; simp (maxSteps := 2000000) -implicitDefEqProofs [-getElem?_pos, List.getElem?_cons_zero, List.getElem?_cons_succ, go_sem, eqV, plen, loadV, storeV, roB])
  refine Tells.condF (by simp [evalO, getF, pmFr]) ?_
  apply Tells.seq (fr' := [(1, .int .i64 (m : Nat)), (8, .sl 2 0 0 0), (11, .fn 22 [.ptr 1 0 0 0]), (13, .fn 23 [.ptr 0 0 0 0]), (15, .ro c (.pb r) 1), (16, .int .u8 1), (96, .bool true)]) (H' := pbHp c b cg g 1 t1)
  · unfold pmFr pbHp
    generalize ts.map Ty.pay = L at *
    generalize g.map AV.bool = G at *
    (refine ⟨0, ?_⟩; simp (maxSteps := 2000000) -implicitDefEqProofs [-getElem?_pos, List.getElem?_cons_zero, List.getElem?_cons_succ, go_sem, eqV, plen, loadV, storeV, roB])
  refine Tells.condT (by simp [evalO, getF, pmFr]) ?_
  have hlen : (pbHp c b cg g 1 t1).length = 3 := rfl
  rw [hlen] at hT
  apply Tells.seq (fr' := [(1, .int .i64 (m : Nat)), (2, .sl 3 0 tl.length 0), (8, .sl 2 0 0 0), (10, .int .i64 e), (11, .fn 22 [.ptr 1 0 0 0]), (13, .fn 23 [.ptr 0 0 0 0]), (15, .ro c (.pb r) 1), (16, .int .u8 1)]) (H' := pbHp c b cg g 1 t1 ++ [some ob])
  · generalize pbHp c b cg g 1 t1 = HH at *
    generalize tl.length = N at *
    (refine ⟨0, ?_⟩; simp (maxSteps := 2000000) -implicitDefEqProofs [-getElem?_pos, List.getElem?_cons_zero, List.getElem?_cons_succ, go_sem, eqV, plen, loadV, storeV, hT, assignV])
  have hnew : (pbHp c b cg g 1 t1 ++ [some ob, some nilP])[4]? = some (some nilP) := rfl
  have hHl : (pbHp c b cg g 1 t1 ++ [some ob]).length = 4 := rfl
  apply Tells.assoc
  by_cases he : e = 0
  · obtain ⟨_, hle⟩ := hTl he
    subst he
    have hsl := slFrom (c := c) (t := 1) (n := 2 * m) (b := r) (fun h => absurd h hc) hle (pbHp c b cg g 1 t1 ++ [some ob])
    refine Tells.of (o := ⟨.normal, [(2, .sl 3 0 tl.length 0), (8, .sl 2 0 0 0), (11, .fn 22 [.ptr 1 0 0 0]), (13, .fn 23 [.ptr 0 0 0 0]), (15, .ro c (.pb (r.drop (2 * m))) 1), (16, .int .u8 1)], pbHp c b cg g 1 t1 ++ [some ob]⟩) ⟨0, ?_⟩ (.inl ⟨rfl, rfl, rfl, rfl⟩)
    generalize pbHp c b cg g 1 t1 ++ [some ob] = HH at *
    generalize r.drop (2 * m) = rr at *
    generalize 2 * m = m2 at *
    generalize tl.length = N at *
    simp (maxSteps := 2000000) -implicitDefEqProofs [-getElem?_pos, List.getElem?_cons_zero, List.getElem?_cons_succ, go_sem, eqV, plen, loadV, storeV, hw2, hsl, assignV]
  · have heb : (e != 0) = true := by simpa using he
    refine Tells.of (o := ⟨.ret, [(8, .sl 4 0 0 0), (9, .bool false), (10, .int .i64 e)], pbHp c b cg g 1 t1 ++ [some ob, some nilP]⟩) ⟨0, ?_⟩ (.inr ⟨by simp, hbad ⟨he, rfl, 4, rfl, rfl, rfl, hnew⟩ (if_pos he)⟩)
    have hcat : pbHp c b cg g 1 t1 ++ [some ob, some nilP] = (pbHp c b cg g 1 t1 ++ [some ob]) ++ [some nilP] := by simp
    rw [hcat]
    generalize pbHp c b cg g 1 t1 ++ [some ob] = HH at *
    generalize tl.length = N at *
    simp (maxSteps := 2000000) -implicitDefEqProofs [-getElem?_pos, List.getElem?_cons_zero, List.getElem?_cons_succ, go_sem, eqV, plen, loadV, storeV, heb, assignV, emP, hHl]

set_option maxRecDepth 100000 in
set_option maxHeartbeats 4000000 in
theorem pr_mid (T : Nat) (hc : c ≠ 0) (hct : ct = 0 → ts = []) (h1 : 1 ≤ m) (hm : m ≤ 65535) (hb : (m + 7) / 8 ≤ b.length) (htt : ∀ t ∈ ts, t.t < 256) (hbl : b.length ≤ 90000000) :
    ∃ code, ((Try.f9.body).bind (codeAt [1, 1, 1, 1, 1, 1, 1, 1])) = some code ∧ Tells (Rets (PrZ (rdMid b m ts g (b.drop ((m + 7) / 8))))) X (evT X) 9 0 code (pbFr m (.ro ct (.pr 2 (ts.map Ty.pay)) 3) (8 * ((m + 7) / 8)) ++ [(48, .bool false)]) (pbHp c b cg g 1 t1) := by
  refine ⟨_, rfl, ?_⟩
  have hsl := slFrom (c := c) (t := 1) (n := (m + 7) / 8) (b := b) (fun h => absurd h hc) hb (pbHp c b cg g 1 t1)
  have hrl : (b.drop ((m + 7) / 8)).length ≤ 90000000 := by rw [List.length_drop]; omega
  apply Tells.seq (fr' := pmFr c ct ts m (b.drop ((m + 7) / 8)) []) (H' := pbHp c b cg g 1 t1)
  · unfold pbFr pmFr
    unfold pbHp at *
    generalize ts.map Ty.pay = L at *
    generalize g.map AV.bool = G at *
    generalize b.drop ((m + 7) / 8) = rr at *
    generalize 8 * ((m + 7) / 8) = m8 at *
    generalize (m + 7) / 8 = q at *
    simp only [roB] at hsl
    (refine ⟨0, ?_⟩; simp (maxSteps := 2000000) -implicitDefEqProofs [-getElem?_pos, List.getElem?_cons_zero, List.getElem?_cons_succ, go_sem, eqV, plen, loadV, storeV, roB, hsl, assignV])
  clear hsl
  have hbad : ∀ {o : AM.Out} {e : Int} {x : List Pm × Bool × Int}, prE e o → x = ([], false, e) → Rets (PrZ x) o := by
    rintro o e x ⟨k1, k2, j, k3, k4, k5, k6⟩ h
    rw [h]
    exact ⟨k2, PrZ.bad k3 k4 k5 k6⟩
  apply Tells.assoc
  generalize b.drop ((m + 7) / 8) = rr at *
  match rr with
  | [] =>
    refine Tells.of (o := ⟨.ret, [(8, .sl 3 0 0 0), (9, .bool false), (10, .int .i64 4)], [some (roB c (.pb b) 1 1), some (roB cg (.pc (g.map .bool)) 4 t1), some nilP, some nilP]⟩) ⟨0, ?_⟩ (hbad ⟨by decide, rfl, 3, rfl, rfl, rfl, rfl⟩ rfl)
    unfold pmFr pbHp
    generalize ts.map Ty.pay = L at *
    generalize g.map AV.bool = G at *
    simp (maxSteps := 2000000) -implicitDefEqProofs [-getElem?_pos, List.getElem?_cons_zero, List.getElem?_cons_succ, go_sem, eqV, plen, loadV, storeV, roB, assignV, emP]
  | y :: r =>
  have hr2 : r.length ≤ 90000000 := by simp at hrl; omega
  have hlp : ¬ (((r.length + 1 : Nat) : Int) = 0) := by omega
  have hlb : ((((r.length : Nat) : Int) + 1) == 0) = false := beq_eq_false_iff_ne.2 (by omega)
  apply Tells.seq (fr' := pmFr c ct ts m (y :: r) [(69, .bool false)]) (H' := pbHp c b cg g 1 t1)
  · unfold pmFr pbHp
    generalize ts.map Ty.pay = L at *
    generalize g.map AV.bool = G at *
    (refine ⟨0, ?_⟩; simp (maxSteps := 2000000) -implicitDefEqProofs [-getElem?_pos, List.getElem?_cons_zero, List.getElem?_cons_succ, go_sem, eqV, plen, loadV, storeV, roB, hlb])
  apply Tells.seq (fr' := pmFr c ct ts m (y :: r) [(69, .bool false)]) (H' := pbHp c b cg g 1 t1)
  · exact condF (by simp [evalO, getF, pmFr]) ⟨0, rfl⟩
  apply Tells.seq (fr' := pmFr c ct ts m (y :: r) [(16, .int .u8 (y.toNat : Nat))]) (H' := pbHp c b cg g 1 t1)
  · unfold pmFr pbHp
    generalize ts.map Ty.pay = L at *
    generalize g.map AV.bool = G at *
    (refine ⟨0, ?_⟩; simp (maxSteps := 2000000) -implicitDefEqProofs [-getElem?_pos, List.getElem?_cons_zero, List.getElem?_cons_succ, go_sem, eqV, plen, loadV, storeV, roB, assignV])
  have hsl1 : sliceV X (pbHp c b cg g 1 t1) 22 (.ro c (.pb (y :: r)) 1) (some (.int .i64 1)) none = some (.ro c (.pb r) 1) := slFrom (c := c) (t := 1) (n := 1) (b := y :: r) (fun h => absurd h hc) (by simp) (pbHp c b cg g 1 t1)
  apply Tells.seq (fr' := pmFr c ct ts m r [(16, .int .u8 (y.toNat : Nat))]) (H' := pbHp c b cg g 1 t1)
  · unfold pmFr
    unfold pbHp at *
    generalize ts.map Ty.pay = L at *
    generalize g.map AV.bool = G at *
    simp only [roB] at hsl1
    (refine ⟨0, ?_⟩; simp (maxSteps := 2000000) -implicitDefEqProofs [-getElem?_pos, List.getElem?_cons_zero, List.getElem?_cons_succ, go_sem, eqV, plen, loadV, storeV, roB, hsl1, assignV])
  by_cases hy0 : y.toNat = 0
  · have : rdMid b m ts g (y :: r) = (if ts.length < m then ([], false, 5) else if (ts.take m).any (fun t => !kn t.t) then ([], false, 5) else prZ 0 (prF b g (ts.take m) m 0 [] r)) := if_pos hy0
    rw [this, hy0]
    exact piece (pr_kno c b ct ts cg g m t1 r hc hct h1 hm (by omega) htt hr2) _ rfl
  by_cases hy1 : y.toNat = 1
  · have : rdMid b m ts g (y :: r) = (if (tyR r m).2 ≠ 0 then ([], false, (tyR r m).2) else prZ 1 (prF b g (tyR r m).1 m 0 [] (r.drop (2 * m)))) := (if_neg hy0).trans (if_pos hy1)
    rw [this, hy1]
    exact piece (pr_told c b ct ts cg g m t1 r hc h1 hm (by omega) hr2) _ rfl
  have : rdMid b m ts g (y :: r) = ([], false, 5) := (if_neg hy0).trans (if_neg hy1)
  rw [this]
  have e0 : ((y.toNat : Int) == 0) = false := beq_eq_false_iff_ne.2 (by omega)
  have e1 : ((y.toNat : Int) == 1) = false := beq_eq_false_iff_ne.2 (by omega)
  refine Tells.of (o := ⟨.ret, [(8, .sl 3 0 0 0), (9, .bool false), (10, .int .i64 5)], [some (roB c (.pb b) 1 1), some (roB cg (.pc (g.map .bool)) 4 t1), some nilP, some nilP]⟩) ?_ (hbad ⟨by decide, rfl, 3, rfl, rfl, rfl, rfl⟩ rfl)
  apply Run.seq_out (hne := by simp)
  unfold pmFr pbHp
  generalize ts.map Ty.pay = L at *
  generalize g.map AV.bool = G at *
  generalize y.toNat = yn at *
  refine ⟨0, ?_⟩
  simp (maxSteps := 2000000) -implicitDefEqProofs [-getElem?_pos, List.getElem?_cons_zero, List.getElem?_cons_succ, go_sem, eqV, plen, loadV, storeV, roB, e0, e1, assignV, emP]

end

end Go.Proofs.Ytbmddnokokoofaa

/- Walks: parameters read: whole. -/
namespace Go.Proofs.Ytbmddnokokoofaa
open Go.AM
set_option linter.unusedSimpArgs false
set_option linter.unusedVariables false

section
variable (c : Nat) (b : List UInt8) (n : Int) (ct : Nat) (ts : List Ty) (cg : Nat) (g : List Bool)

set_option maxRecDepth 100000 in
set_option maxHeartbeats 4000000 in
theorem rd_code (hc : c = 0 → b = []) (hct : ct = 0 → ts = []) (hcg : cg = 0 → g = []) (hb : b.length ≤ 90000000) (htt : ∀ t ∈ ts, t.t < 256) :
    ∃ code, Try.f9.body = some code ∧
    Tells (Rets (PrZ (rdPar b n ts g))) X (evT X) 9 0 code [(0, .ro c (.pb b) 1), (1, .int .i64 n), (2, .ro ct (.pr 2 (ts.map Ty.pay)) 3), (3, .ro cg (.pc (g.map .bool)) 4)] [] := by
  refine ⟨_, rfl, ?_⟩
  generalize hTS : ts.map Ty.pay = TS at *
  generalize hG : g.map AV.bool = G at *
  apply Tells.seq (fr' := [(1, .int .i64 n), (2, .ro ct (.pr 2 TS) 3), (4, .ptr 0 0 0 0), (7, .ptr 1 0 0 0), (8, .sl 2 0 0 0)]) (H' := [some (roB c (.pb b) 1 0), some (roB cg (.pc G) 4 0), some nilP])
  · (refine ⟨0, ?_⟩; simp (maxSteps := 2000000) -implicitDefEqProofs [-getElem?_pos, List.getElem?_cons_zero, List.getElem?_cons_succ, go_sem, eqV, plen, loadV, storeV, roB, assignV, emP])
  have hbadR : ∀ {o : AM.Out} {e : Int}, prE e o → rdPar b n ts g = ([], false, e) → Rets (PrZ (rdPar b n ts g)) o := by
    rintro o e ⟨k1, k2, j, k3, k4, k5, k6⟩ h
    rw [h]
    exact ⟨k2, PrZ.bad k3 k4 k5 k6⟩
  by_cases h1 : n < 0 ∨ 65535 < n
  · have hr : rdPar b n ts g = ([], false, 2) := if_pos h1
    refine Tells.of (o := ⟨.ret, [(8, .sl 3 0 0 0), (9, .bool false), (10, .int .i64 2)], [some (roB c (.pb b) 1 0), some (roB cg (.pc G) 4 0), some nilP, some nilP]⟩) ?_ (hbadR ⟨by decide, rfl, 3, rfl, rfl, rfl, rfl⟩ hr)
    apply Run.seq_out (hne := by simp)
    rcases h1 with h | h
    · refine ⟨0, ?_⟩
      simp (maxSteps := 2000000) -implicitDefEqProofs [-getElem?_pos, List.getElem?_cons_zero, List.getElem?_cons_succ, go_sem, eqV, plen, loadV, storeV, h, assignV, emP]
    · have h' : ¬ n < 0 := by omega
      refine ⟨0, ?_⟩
      simp (maxSteps := 2000000) -implicitDefEqProofs [-getElem?_pos, List.getElem?_cons_zero, List.getElem?_cons_succ, go_sem, eqV, plen, loadV, storeV, h, h', assignV, emP]
  have n0 : ¬ n < 0 := by omega
  have n1 : ¬ 65535 < n := by omega
  obtain ⟨m, rfl⟩ : ∃ m : Nat, n = (m : Nat) := ⟨n.toNat, by omega⟩
  apply Tells.seq (fr' := [(1, .int .i64 (m : Nat)), (2, .ro ct (.pr 2 TS) 3), (4, .ptr 0 0 0 0), (7, .ptr 1 0 0 0), (8, .sl 2 0 0 0), (30, .bool false)]) (H' := [some (roB c (.pb b) 1 0), some (roB cg (.pc G) 4 0), some nilP])
  · (refine ⟨0, ?_⟩; simp (maxSteps := 2000000) -implicitDefEqProofs [-getElem?_pos, List.getElem?_cons_zero, List.getElem?_cons_succ, go_sem, eqV, plen, loadV, storeV, n0, n1])
  apply Tells.assoc
  by_cases hm0 : m = 0
  · subst hm0
    by_cases hb0 : 0 < b.length
    · have hr : rdPar b ((0 : Nat) : Int) ts g = ([], false, 5) := by unfold rdPar; rw [if_neg (by simp), if_pos (show ((0 : Nat) : Int) = 0 from rfl), if_pos hb0]
      have hbI : (0 : Int) < (b.length : Int) := by omega
      refine Tells.of (o := ⟨.ret, [(8, .sl 3 0 0 0), (9, .bool false), (10, .int .i64 5)], [some (roB c (.pb b) 1 0), some (roB cg (.pc G) 4 0), some nilP, some nilP]⟩) ⟨0, ?_⟩ (hbadR ⟨by decide, rfl, 3, rfl, rfl, rfl, rfl⟩ hr)
      simp (maxSteps := 2000000) -implicitDefEqProofs [-getElem?_pos, List.getElem?_cons_zero, List.getElem?_cons_succ, go_sem, eqV, plen, loadV, storeV, roB, hbI, hb0, assignV, emP]
    · have hr : rdPar b ((0 : Nat) : Int) ts g = ([], false, 0) := by unfold rdPar; rw [if_neg (by simp), if_pos (show ((0 : Nat) : Int) = 0 from rfl), if_neg hb0]
      have hbl : b.length = 0 := by omega
      refine Tells.of (o := ⟨.ret, [(8, .sl 3 0 0 0), (9, .bool false), (10, .int .i64 0)], [some (roB c (.pb b) 1 0), some (roB cg (.pc G) 4 0), some nilP, some nilP]⟩) ⟨0, ?_⟩ ⟨rfl, by rw [hr]; exact PrZ.bad rfl rfl rfl rfl⟩
      simp (maxSteps := 2000000) -implicitDefEqProofs [-getElem?_pos, List.getElem?_cons_zero, List.getElem?_cons_succ, go_sem, eqV, plen, loadV, storeV, roB, hbl, assignV, emP]
  have hmb : (((m : Nat) : Int) == 0) = false := beq_eq_false_iff_ne.2 (by omega)
  apply Tells.seq (fr' := [(1, .int .i64 (m : Nat)), (2, .ro ct (.pr 2 TS) 3), (4, .ptr 0 0 0 0), (7, .ptr 1 0 0 0), (8, .sl 2 0 0 0), (32, .bool false)]) (H' := [some (roB c (.pb b) 1 0), some (roB cg (.pc G) 4 0), some nilP])
  · (refine ⟨0, ?_⟩; simp (maxSteps := 2000000) -implicitDefEqProofs [-getElem?_pos, List.getElem?_cons_zero, List.getElem?_cons_succ, go_sem, eqV, plen, loadV, storeV, hmb, hm0])
  apply Tells.seq (fr' := [(1, .int .i64 (m : Nat)), (2, .ro ct (.pr 2 TS) 3), (4, .ptr 0 0 0 0), (7, .ptr 1 0 0 0), (8, .sl 2 0 0 0), (32, .bool false)]) (H' := [some (roB c (.pb b) 1 0), some (roB cg (.pc G) 4 0), some nilP])
  · exact condF (by simp [evalO, getF]) ⟨0, rfl⟩
  have hR := rdPar_mid b m ts g (by omega) (by omega)
  have w7 : IntKind.i64.wrap ((m : Int) + 7) = ((m + 7 : Nat) : Int) := by rw [wrap_i64 (by omega) (by omega)]; omega
  have w8 : IntKind.i64.wrap (Int.tdiv ((m + 7 : Nat) : Int) 8) = (((m + 7) / 8 : Nat) : Int) := by
    rw [Int.tdiv_eq_ediv_of_nonneg (by omega), wrap_i64 (by omega) (by omega)]; omega
  have w8' : IntKind.i64.wrap (((m + 7 : Nat) : Int) / 8) = (((m + 7) / 8 : Nat) : Int) := by
    rw [wrap_i64 (by omega) (by omega)]; omega
  have w9 : IntKind.i64.wrap (8 * (((m + 7) / 8 : Nat) : Int)) = ((8 * ((m + 7) / 8) : Nat) : Int) := by rw [wrap_i64 (by omega) (by omega)]; omega
  apply Tells.seq (fr' := [(1, .int .i64 (m : Nat)), (2, .ro ct (.pr 2 TS) 3), (4, .ptr 0 0 0 0), (8, .sl 2 0 0 0), (11, .fn 22 [.ptr 1 0 0 0])]) (H' := [some (roB c (.pb b) 1 0), some (roB cg (.pc G) 4 0), some nilP])
  · (refine ⟨0, ?_⟩; simp (maxSteps := 2000000) -implicitDefEqProofs [-getElem?_pos, List.getElem?_cons_zero, List.getElem?_cons_succ, go_sem, eqV, plen, loadV, storeV, scalars, scalar, assignV])
  apply Tells.seq (fr' := [(1, .int .i64 (m : Nat)), (2, .ro ct (.pr 2 TS) 3), (4, .ptr 0 0 0 0), (8, .sl 2 0 0 0), (11, .fn 22 [.ptr 1 0 0 0]), (12, .int .i64 (((m + 7) / 8 : Nat) : Int))]) (H' := [some (roB c (.pb b) 1 0), some (roB cg (.pc G) 4 0), some nilP])
  · generalize (m + 7) / 8 = q at *
    generalize m + 7 = m7 at *
    (refine ⟨0, ?_⟩; simp (maxSteps := 2000000) -implicitDefEqProofs [-getElem?_pos, List.getElem?_cons_zero, List.getElem?_cons_succ, go_sem, eqV, plen, loadV, storeV, w7, w8, w8'])
  apply Tells.assoc
  by_cases hq : b.length < (m + 7) / 8
  · rw [if_pos hq] at hR
    have hqi : (b.length : Int) < (((m + 7) / 8 : Nat) : Int) := by omega
    refine Tells.of (o := ⟨.ret, [(8, .sl 3 0 0 0), (9, .bool false), (10, .int .i64 4)], [some (roB c (.pb b) 1 0), some (roB cg (.pc G) 4 0), some nilP, some nilP]⟩) ?_ (hbadR ⟨by decide, rfl, 3, rfl, rfl, rfl, rfl⟩ hR)
    generalize (m + 7) / 8 = q at *
    refine ⟨0, ?_⟩
    simp (maxSteps := 2000000) -implicitDefEqProofs [-getElem?_pos, List.getElem?_cons_zero, List.getElem?_cons_succ, go_sem, eqV, plen, loadV, storeV, roB, hqi, assignV, emP]
  rw [if_neg hq] at hR
  have hqi : ¬ (b.length : Int) < (((m + 7) / 8 : Nat) : Int) := by omega
  apply Tells.seq (fr' := [(1, .int .i64 (m : Nat)), (2, .ro ct (.pr 2 TS) 3), (4, .ptr 0 0 0 0), (8, .sl 2 0 0 0), (11, .fn 22 [.ptr 1 0 0 0]), (12, .int .i64 (((m + 7) / 8 : Nat) : Int)), (43, .bool false)]) (H' := [some (roB c (.pb b) 1 0), some (roB cg (.pc G) 4 0), some nilP])
  · generalize (m + 7) / 8 = q at *
    (refine ⟨0, ?_⟩; simp (maxSteps := 2000000) -implicitDefEqProofs [-getElem?_pos, List.getElem?_cons_zero, List.getElem?_cons_succ, go_sem, eqV, plen, loadV, storeV, roB, hqi])
  apply Tells.seq (fr' := [(1, .int .i64 (m : Nat)), (2, .ro ct (.pr 2 TS) 3), (4, .ptr 0 0 0 0), (8, .sl 2 0 0 0), (11, .fn 22 [.ptr 1 0 0 0]), (12, .int .i64 (((m + 7) / 8 : Nat) : Int)), (43, .bool false)]) (H' := [some (roB c (.pb b) 1 0), some (roB cg (.pc G) 4 0), some nilP])
  · exact condF (by simp [evalO, getF]) ⟨0, rfl⟩
  apply Tells.seq (fr' := [(1, .int .i64 (m : Nat)), (2, .ro ct (.pr 2 TS) 3), (4, .ptr 0 0 0 0), (8, .sl 2 0 0 0), (11, .fn 22 [.ptr 1 0 0 0]), (12, .int .i64 (((m + 7) / 8 : Nat) : Int)), (13, .fn 23 [.ptr 0 0 0 0])]) (H' := [some (roB c (.pb b) 1 0), some (roB cg (.pc G) 4 0), some nilP])
  · generalize (m + 7) / 8 = q at *
    (refine ⟨0, ?_⟩; simp (maxSteps := 2000000) -implicitDefEqProofs [-getElem?_pos, List.getElem?_cons_zero, List.getElem?_cons_succ, go_sem, eqV, plen, loadV, storeV, scalars, scalar, assignV])
  apply Tells.assoc
  apply Tells.seq (fr' := pbFr m (.ro ct (.pr 2 TS) 3) 0) (H' := pbHp c b cg g 0 0)
  · unfold pbFr pbHp
    rw [hG]
    generalize 8 * ((m + 7) / 8) = m8 at *
    generalize (m + 7) / 8 = q at *
    (refine ⟨0, ?_⟩; simp (maxSteps := 2000000) -implicitDefEqProofs [-getElem?_pos, List.getElem?_cons_zero, List.getElem?_cons_succ, go_sem, eqV, plen, loadV, storeV, w9])
  apply Tells.or (P := fun fr H => (List.range (8 * ((m + 7) / 8))).any (bxB b g m) = false ∧ fr = pbFr m (.ro ct (.pr 2 TS) 3) (8 * ((m + 7) / 8)) ++ [(48, .bool false)] ∧ ∃ t1, H = pbHp c b cg g 1 t1) (piece ((pb_loop c b cg g m (.ro ct (.pr 2 TS) 3) (by omega) (by omega) (by omega)).imp fun code h => ⟨h.1, h.2.mono fun o h => by
    rcases h with h | ⟨k1, k2, k3⟩
    · exact .inl h
    · exact .inr ⟨k1, hbadR k3 (by rw [hR, if_pos k2])⟩⟩) _ rfl)
  rintro fr H ⟨hany, rfl, t1, rfl⟩
  rw [if_neg (by rw [hany]; simp)] at hR
  have hc0 : c ≠ 0 := fun h => by
    have := hc h
    subst this
    simp at hq
    omega
  rw [hR, ← hTS]
  exact piece (pr_mid c b ct ts cg g m t1 0 hc0 hct (by omega) (by omega) (by omega) htt hb) _ rfl

end

end Go.Proofs.Ytbmddnokokoofaa

/- Walks: the document's reading of a row's value. -/
namespace Go.Proofs.Ytbmddnokokoofaa
open Go.AM
set_option linter.unusedSimpArgs false
set_option linter.unusedVariables false

/-- a value off what is left -/
def vlF (s : St) (t : Ty) : Va × St :=
  if s.2 ≠ 0 then ({}, s) else ((rdV s.1 t).1, s.1.drop (rdV s.1 t).2.1, (rdV s.1 t).2.2)

theorem vlF_len (s : St) (t : Ty) : (vlF s t).2.1.length ≤ s.1.length := by
  unfold vlF
  split
  · exact Nat.le_refl _
  · simp only [List.length_drop]; omega
theorem vlF_nil {c : Nat} {s : St} {t : Ty} (h : c = 0 → s.1 = []) : c = 0 → (vlF s t).2.1 = [] := by
  intro hc
  have := vlF_len s t
  rw [h hc] at this
  exact List.eq_nil_of_length_eq_zero (by simpa using this)

section
variable (c t tg : Nat) (s : St) (y : Ty)

set_option maxRecDepth 100000 in
set_option maxHeartbeats 4000000 in
theorem vl_code (hc : c = 0 → s.1 = []) (hy : y.t < 256) (hb : s.1.length ≤ 90000000) : ∃ code, Try.f35.body = some code ∧ ∃ rest,
    Run X (evT X) 35 1 code [(0, .ptr 0 0 0 0), (1, .agg y.pay)] [some (rdO c 3 3 s)] ⟨.ret, [(4, .ptr 2 0 0 0)], some (rdO c 3 3 (vlF s y).2) :: some (tyO y) :: some (vaO (vlF s y).1) :: rest⟩ := by
  refine ⟨_, rfl, ?_⟩
  obtain ⟨b, e⟩ := s
  simp only at hb hc
  have hb0 := bvV0
  by_cases he : e = 0
  · subst he
    have hv : vlF (b, 0) y = ((rdV b y).1, b.drop (rdV b y).2.1, (rdV b y).2.2) := if_neg (by simp)
    have hV := rvread_ev (H := [some (rdO c 3 3 (b, 0)), some (tyO y), some (vaO {})]) (a := .ro c (.pb b) 3) (b := b) (t := y) (Byt.ro (.inl rfl) hc) hy hb
    rw [rv_eq] at hV
    have hvl := rdV_le b y hb
    rw [hv]
    generalize rdV b y = x at *
    obtain ⟨v, k, e⟩ := x
    simp only at *
    have hsl := fun H => slFrom (c := c) (t := 3) (n := k) (b := b) hc hvl H
    refine ⟨[some (vaO v)], ?_⟩
    apply Run.seq (fr' := [(0, .ptr 0 0 0 0), (3, .ptr 1 0 0 0), (4, .ptr 2 0 0 0)]) (H' := [some (rdO c 3 3 (b, 0)), some (tyO y), some (vaO {})])
    · (refine ⟨0, ?_⟩; simp (maxSteps := 2000000) -implicitDefEqProofs [-getElem?_pos, List.getElem?_cons_zero, List.getElem?_cons_succ, go_sem, eqV, plen, loadV, storeV, rdO, tyO, Ty.pay, vaO, Va.pay])
    apply Run.seq (fr' := [(0, .ptr 0 0 0 0), (3, .ptr 1 0 0 0), (4, .ptr 2 0 0 0), (12, .bool false)]) (H' := [some (rdO c 3 3 (b, 0)), some (tyO y), some (vaO {})])
    · apply Run.seq (fr' := [(0, .ptr 0 0 0 0), (3, .ptr 1 0 0 0), (4, .ptr 2 0 0 0), (12, .bool false)]) (H' := [some (rdO c 3 3 (b, 0)), some (tyO y), some (vaO {})])
      · (refine ⟨0, ?_⟩; simp (maxSteps := 2000000) -implicitDefEqProofs [-getElem?_pos, List.getElem?_cons_zero, List.getElem?_cons_succ, go_sem, eqV, plen, loadV, storeV, rdO, tyO, Ty.pay, vaO, Va.pay])
      · exact condF (by simp [evalO, getF]) ⟨0, rfl⟩
    apply Run.seq (fr' := [(0, .ptr 0 0 0 0), (4, .ptr 2 0 0 0), (5, .ptr 3 0 0 0), (6, .int .i64 (k : Nat)), (7, .int .i64 e)]) (H' := [some (rdO c 3 3 (b, 0)), some (tyO y), some (vaO {}), some (vaO v)])
    · simp only [rdO, tyO, Ty.pay, vaO, Va.pay, Int.cast_ofNat_Int] at hV
      apply Run.dy (by simp) keep35_3 (by simp)
      · (conv => lhs; simp (maxSteps := 2000000) -implicitDefEqProofs [-getElem?_pos, List.getElem?_cons_zero, List.getElem?_cons_succ, go_sem, eqV, plen, loadV, storeV, runD, out1, markOf, freeO, quietO, pushes, isAssign, calledV, touched, mentioned, opVals, touchCall, mentionCall, idsAt, Op.operands, ids, idsL, lendArgs, lendV, lend1, lendL, eqH_self, rdO, tyO, Ty.pay, vaO, Va.pay, mkTy, mkVa, hV, retagL, retag, retagP, flatCells, splice, scalars, scalar])
        rfl
      · kernel_rfl
      · rfl
    refine ⟨0, ?_⟩
    simp (maxSteps := 2000000) -implicitDefEqProofs [-getElem?_pos, List.getElem?_cons_zero, List.getElem?_cons_succ, go_sem, eqV, plen, loadV, storeV, rdO, tyO, Ty.pay, vaO, Va.pay, mkVa, hsl, retagL, retag, retagP, flatCells, splice, scalars, scalar]
  · have heb : (e != 0) = true := by simpa using he
    have hv : vlF (b, e) y = ({}, (b, e)) := if_pos he
    rw [hv]
    refine ⟨[], 0, ?_⟩
    simp only [vaO, Va.pay, Int.cast_ofNat_Int] at hb0
    simp (maxSteps := 2000000) -implicitDefEqProofs [-getElem?_pos, List.getElem?_cons_zero, List.getElem?_cons_succ, go_sem, eqV, plen, loadV, storeV, rdO, tyO, Ty.pay, vaO, Va.pay, mkVa, hb0, heb, retagL, retag, retagP, flatCells, splice, scalars, scalar]

end

theorem vl_ev {H : AM.Heap} {o c t tg : Nat} {s : St} {y : Ty} (ho : H[o]? = some (some (rdO c t tg s))) (hj : joinTags (tagsOb (rdO c t tg s)) = some t) (hc : c = 0 → s.1 = []) (hy : y.t < 256) (hb : s.1.length ≤ 90000000) :
    evT X 35 [.ptr o 0 0 0, .agg y.pay] H = some (.agg (vlF s y).1.pay, upd H o (some (rdO c t t (vlF s y).2))) := by
  obtain ⟨code, hcode, rest, hr⟩ := vl_code c s y hc hy hb
  have := Ev1.box (C := X) (f := 35) (H := H) (o := o) (g := 0) (ob := rdO c t tg s) (ob1 := rdO c 3 3 (vlF s y).2) (xs := [.agg y.pay]) (ys := [.agg y.pay]) (n := 3) (t := t) (rest := some (tyO y) :: some (vaO (vlF s y).1) :: rest)
    (l := [.agg (vlF s y).1.pay]) (evT_below X) Try.func35 hcode rfl ho rfl rfl (args_ty (f := 35) (i := 1) (t := y) (args_nil 2)) (by simp [idsL, ids, Ty.pay]) rfl rfl (by simp [gtag]) hj (by rw [par35]; exact hr) (.inr rfl)
    (by
      show resultsV X [(4, .ptr 2 0 0 0)] _ [.cell 4 32] = _
      simp [resultsV, getF, loadV, live, pagg, mkVa, vaO, Va.pay]) rfl rfl rfl (by simp [resultV, noTups, ids, idsL, Va.pay])
    (by intro k hk; right; simpa [resultV, tags, tagsOb, rdO, tagsL, Va.pay] using hk) (.inr rfl)
  exact evT_eq (by simpa [rdO, ren, renL, bk, resultV, Va.pay] using this)

end Go.Proofs.Ytbmddnokokoofaa

/- Walks: the document's look at bits that are none. -/
namespace Go.Proofs.Ytbmddnokokoofaa
open Go.AM
set_option linter.unusedSimpArgs false
set_option linter.unusedVariables false

/-- is a bit set that is none? -/
def btX (b : List UInt8) (at' n i : Nat) : Bool := (decide (i < at') || decide (at' + n ≤ i)) && bitB b i
def btF (b : List UInt8) (at' n : Nat) : Bool := (List.range (8 * b.length)).any (btX b at' n)

section
variable (c : Nat) (b : List UInt8) (at' n : Nat)

def btFr (i : Nat) : AM.Frame := [(0, .ro c (.pb b) 1), (1, .int .i64 (at' : Nat)), (2, .int .i64 (n : Nat)), (7, .int .i64 (i : Nat))]

set_option maxRecDepth 100000 in
set_option maxHeartbeats 4000000 in
theorem bt_round (i : Nat) (ha : at' ≤ 100) (hn : n ≤ 70000) (hb : b.length ≤ 1000000) (hi : i < 8 * b.length) :
    ∃ code, ((Try.f32.body).bind (codeAt [1, 0, 1, 0, 0])) = some code ∧
    Tells (fun o => (btX b at' n i = false ∧ o.ex = .normal ∧ o.fr = btFr c b at' n (i + 1) ∧ o.H = []) ∨ (btX b at' n i = true ∧ o.ex = .ret ∧ getF o.fr 6 = .bool true)) X (evT X) 32 0 code (btFr c b at' n i) [] := by
  refine ⟨_, rfl, ?_⟩
  have w8 : IntKind.i64.wrap (8 * (b.length : Int)) = ((8 * b.length : Nat) : Int) := by rw [wrap_i64 (by omega) (by omega)]; omega
  have w1 : IntKind.i64.wrap ((i : Int) + 1) = ((i + 1 : Nat) : Int) := by rw [wrap_i64 (by omega) (by omega)]; omega
  have wn : IntKind.i64.wrap ((at' : Int) + (n : Int)) = ((at' + n : Nat) : Int) := by rw [wrap_i64 (by omega) (by omega)]; omega
  have hiI : (i : Int) < ((8 * b.length : Nat) : Int) := by omega
  obtain ⟨y, hy⟩ : ∃ y, b[i / 8]? = some y := ⟨_, List.getElem?_eq_getElem (by omega)⟩
  have hbit : bitB b i = ((y.toNat / 2 ^ (i % 8)) % 2 == 1) := by unfold bitB; rw [List.getD, hy]; rfl
  have e1 : Int.tdiv (i : Int) 8 = ((i / 8 : Nat) : Int) := by rw [Int.tdiv_eq_ediv_of_nonneg (by omega)]; omega
  have e2 : Int.tmod (i : Int) 8 = ((i % 8 : Nat) : Int) := by rw [Int.tmod_eq_emod_of_nonneg (by omega)]; omega
  have e3 : (i : Int) / 8 = ((i / 8 : Nat) : Int) := by omega
  have e4 : (i : Int) % 8 = ((i % 8 : Nat) : Int) := by omega
  have wq : IntKind.i64.wrap ((i / 8 : Nat) : Int) = ((i / 8 : Nat) : Int) := wrap_i64 (by omega) (by omega)
  have wr8 : IntKind.i64.wrap ((i % 8 : Nat) : Int) = ((i % 8 : Nat) : Int) := wrap_i64 (by omega) (by omega)
  have wu8 : IntKind.u64.wrap ((i % 8 : Nat) : Int) = ((i % 8 : Nat) : Int) := wrap_u64 (by omega) (by omega)
  have hii : ((i / 8 : Nat) : Int) < (b.length : Int) := by omega
  have hin : i / 8 < b.length := by omega
  have hr0 : ¬ ((i % 8 : Nat) : Int) < 0 := by omega
  have hsh := shr8 (y := y.toNat) (j := i % 8) (Nat.mod_lt _ (by omega))
  have han := and1 (y := y.toNat) (j := i % 8) y.toNat_lt
  have heq : ∀ z : Nat, ((z : Int) == 1) = (z == 1) := by
    intro z
    by_cases h : z = 1
    · subst h; rfl
    · have : (z == 1) = false := by simpa using h
      rw [this]; exact beq_eq_false_iff_ne.2 (by omega)
  have hX : btX b at' n i = ((decide (i < at') || decide (at' + n ≤ i)) && bitB b i) := rfl
  have hlt1 : (i : Int) < (at' : Int) ↔ i < at' := by omega
  have hlt2 : ((at' + n : Nat) : Int) ≤ (i : Int) ↔ at' + n ≤ i := by omega
  rw [hbit] at hX
  rw [hX]
  generalize i / 8 = q at *
  generalize i % 8 = r at *
  generalize y.toNat / 2 ^ r = d at *
  have han2 := han
  simp only [go_sem] at han2
  simp only [BitVec.toNat_and] at han
  have hq := heq (d % 2)
  generalize hdd : (d % 2 == 1) = z at *
  generalize d % 2 = dd at *
  generalize 8 * b.length = m8 at *
  by_cases h1 : i < at'
  · have h1I : (i : Int) < (at' : Int) := by omega
    rw [decide_eq_true h1]
    cases z with
    | true =>
      refine Tells.of (o := ⟨.ret, [(6, .bool true)], []⟩) ⟨0, ?_⟩ (.inr ⟨rfl, rfl, rfl⟩)
      simp (maxSteps := 2000000) -implicitDefEqProofs [-getElem?_pos, List.getElem?_cons_zero, List.getElem?_cons_succ, go_sem, eqV, plen, loadV, storeV, btFr, w8, hiI, h1I, e1, e2, e3, e4, wq, wr8, wu8, hii, hin, hy, hr0, hsh, han, han2, hq, show IntKind.u8.bits = 8 from rfl]
    | false =>
      refine Tells.of (o := ⟨.normal, _, []⟩) ⟨0, ?_⟩ (.inl ⟨rfl, rfl, rfl, rfl⟩)
      simp (maxSteps := 2000000) -implicitDefEqProofs [-getElem?_pos, List.getElem?_cons_zero, List.getElem?_cons_succ, go_sem, eqV, plen, loadV, storeV, btFr, w1, w8, hiI, h1I, e1, e2, e3, e4, wq, wr8, wu8, hii, hin, hy, hr0, hsh, han, han2, hq, show IntKind.u8.bits = 8 from rfl]
  have h1I : ¬ (i : Int) < (at' : Int) := by omega
  rw [decide_eq_false h1]
  by_cases h2 : at' + n ≤ i
  · have h2I : ((at' + n : Nat) : Int) ≤ (i : Int) := by omega
    rw [decide_eq_true h2]
    generalize at' + n = an at *
    cases z with
    | true =>
      refine Tells.of (o := ⟨.ret, [(6, .bool true)], []⟩) ⟨0, ?_⟩ (.inr ⟨rfl, rfl, rfl⟩)
      simp (maxSteps := 2000000) -implicitDefEqProofs [-getElem?_pos, List.getElem?_cons_zero, List.getElem?_cons_succ, go_sem, eqV, plen, loadV, storeV, btFr, w8, wn, hiI, h1I, h2I, e1, e2, e3, e4, wq, wr8, wu8, hii, hin, hy, hr0, hsh, han, han2, hq, show IntKind.u8.bits = 8 from rfl]
    | false =>
      refine Tells.of (o := ⟨.normal, _, []⟩) ⟨0, ?_⟩ (.inl ⟨rfl, rfl, rfl, rfl⟩)
      simp (maxSteps := 2000000) -implicitDefEqProofs [-getElem?_pos, List.getElem?_cons_zero, List.getElem?_cons_succ, go_sem, eqV, plen, loadV, storeV, btFr, w1, w8, wn, hiI, h1I, h2I, e1, e2, e3, e4, wq, wr8, wu8, hii, hin, hy, hr0, hsh, han, han2, hq, show IntKind.u8.bits = 8 from rfl]
  have h2I : ¬ ((at' + n : Nat) : Int) ≤ (i : Int) := by omega
  rw [decide_eq_false h2]
  generalize at' + n = an at *
  refine Tells.of (o := ⟨.normal, _, []⟩) ⟨0, ?_⟩ (.inl ⟨rfl, rfl, rfl, rfl⟩)
  simp (maxSteps := 2000000) -implicitDefEqProofs [-getElem?_pos, List.getElem?_cons_zero, List.getElem?_cons_succ, go_sem, eqV, plen, loadV, storeV, btFr, w1, w8, wn, hiI, h1I, h2I]

set_option maxRecDepth 100000 in
set_option maxHeartbeats 4000000 in
theorem bt_code (ha : at' ≤ 100) (hn : n ≤ 70000) (hb : b.length ≤ 1000000) :
    ∃ code, Try.f32.body = some code ∧
    Tells (Rets fun fr H => getF fr 6 = .bool (btF b at' n)) X (evT X) 32 0 code [(0, .ro c (.pb b) 1), (1, .int .i64 (at' : Nat)), (2, .int .i64 (n : Nat))] [] := by
  refine ⟨_, rfl, ?_⟩
  apply Tells.seq (fr' := [(0, .ro c (.pb b) 1), (1, .int .i64 (at' : Nat)), (2, .int .i64 (n : Nat))]) (H' := [])
  · (refine ⟨0, ?_⟩; simp (maxSteps := 2000000) -implicitDefEqProofs [-getElem?_pos, List.getElem?_cons_zero, List.getElem?_cons_succ, go_sem, eqV, plen, loadV, storeV])
  apply Tells.assoc
  apply Tells.seq (fr' := btFr c b at' n 0) (H' := [])
  · (refine ⟨0, ?_⟩; simp (maxSteps := 2000000) -implicitDefEqProofs [-getElem?_pos, List.getElem?_cons_zero, List.getElem?_cons_succ, go_sem, eqV, plen, loadV, storeV, btFr])
  apply Tells.or (P := fun fr H => btF b at' n = false ∧ fr = btFr c b at' n (8 * b.length) ++ [(12, .bool false)] ∧ H = [])
  case h' =>
    rintro fr H ⟨h1, rfl, rfl⟩
    refine Tells.of (o := ⟨.ret, [(6, .bool false)], []⟩) ⟨0, ?_⟩ ⟨rfl, by rw [h1]; rfl⟩
    simp (maxSteps := 2000000) -implicitDefEqProofs [-getElem?_pos, List.getElem?_cons_zero, List.getElem?_cons_succ, go_sem, eqV, plen, loadV, storeV, btFr]
  apply (Tells.blockOr (Q := Rets fun fr H => getF fr 6 = .bool (btF b at' n)))
  refine Tells.loopP (fun k fr H => ∃ i, k = 8 * b.length - i ∧ i ≤ 8 * b.length ∧ fr = btFr c b at' n i ∧ H = [] ∧ ∀ j, j < i → btX b at' n j = false) ?_ (k := 8 * b.length) ⟨0, rfl, by omega, rfl, rfl, by omega⟩
  rintro k fr H ⟨i, rfl, hi, rfl, rfl, hall⟩
  by_cases hin : i = 8 * b.length
  · have hany : btF b at' n = false := by
      unfold btF
      rw [List.any_eq_false]
      intro j hj
      rw [hall j (by rw [hin]; exact List.mem_range.1 hj)]; simp
    have w8 : IntKind.i64.wrap (8 * (b.length : Int)) = ((8 * b.length : Nat) : Int) := by rw [wrap_i64 (by omega) (by omega)]; omega
    refine Tells.of (o := ⟨.exit 0, btFr c b at' n (8 * b.length) ++ [(12, .bool false)], []⟩) ⟨0, ?_⟩ (.inr ⟨by simp, .inl ⟨rfl, hany, rfl, rfl⟩⟩)
    rw [hin]
    unfold btFr
    generalize 8 * b.length = m8 at *
    simp (maxSteps := 2000000) -implicitDefEqProofs [-getElem?_pos, List.getElem?_cons_zero, List.getElem?_cons_succ, go_sem, eqV, plen, loadV, storeV, w8]
  refine (piece (bt_round c b at' n i ha hn hb (by omega)) _ rfl).mono ?_
  rintro o (⟨h1, h2, h3, h4⟩ | ⟨h1, h2, h3⟩)
  · refine .inl ⟨h2, 8 * b.length - (i + 1), by omega, i + 1, rfl, by omega, h3, h4, fun j hj => ?_⟩
    by_cases hji : j = i
    · rw [hji]; exact h1
    · exact hall j (by omega)
  · refine .inr ⟨by rw [h2]; simp, .inr ⟨h2, h2, ?_⟩⟩
    show getF o.fr 6 = .bool (btF b at' n)
    rw [h3]
    congr 1
    exact (List.any_eq_true.2 ⟨i, List.mem_range.2 (by omega), h1⟩).symm

end

theorem bt_ev {H : AM.Heap} {a : AV} {b : List UInt8} {at' n : Nat} (h : Byt H a b) (ha : at' ≤ 100) (hn : n ≤ 70000) (hb : b.length ≤ 1000000) :
    evT X 32 [a, .int .i64 (at' : Nat), .int .i64 (n : Nat)] H = some (.bool (btF b at' n), H) := by
  obtain ⟨c, p, xl, hp, hc, hx'⟩ := args_byt (C := X) (f := 32) (i := 0) rfl h (args_flat (i := 1) (a := .int .i64 (at' : Nat)) rfl rfl (args_flat (i := 2) (a := .int .i64 (n : Nat)) rfl rfl (args_nil 3)))
  obtain ⟨code, hcode, o, ⟨he, hr⟩, hrun⟩ := bt_code c b at' n ha hn hb
  exact evT_eq (Ev1.toldP (l := [.bool (btF b at' n)]) (evT_below X) Try.func32 hcode hx' (by simp [idsL, ids, hp.ids]) (by simp [gtag]) rfl rfl rfl ⟨o, ⟨he, by show some [getF o.fr 6] = _; rw [hr]⟩, by rw [par32, coB hp]; exact hrun⟩)

end Go.Proofs.Ytbmddnokokoofaa

/- Walks: the document's reading of types. -/
namespace Go.Proofs.Ytbmddnokokoofaa
open Go.AM
set_option linter.unusedSimpArgs false
set_option linter.unusedVariables false

/-- a type off what is left, told anew or known -/
def tzS (bd : Bool) (ks : List Ty) (i : Nat) (s : St) : Ty × St :=
  if bd then
    (⟨(fx 1 s).1, decide ((fx 1 ((fx 1 s).2.1, wr (decide (kindN (fx 1 s).1 false < 0)) (fx 1 s).2.2)).1 = 128)⟩,
      ((fx 1 ((fx 1 s).2.1, wr (decide (kindN (fx 1 s).1 false < 0)) (fx 1 s).2.2)).2.1,
        wr (decide ((fx 1 ((fx 1 s).2.1, wr (decide (kindN (fx 1 s).1 false < 0)) (fx 1 s).2.2)).1 ≠ 0) && decide ((fx 1 ((fx 1 s).2.1, wr (decide (kindN (fx 1 s).1 false < 0)) (fx 1 s).2.2)).1 ≠ 128)) (fx 1 ((fx 1 s).2.1, wr (decide (kindN (fx 1 s).1 false < 0)) (fx 1 s).2.2)).2.2))
  else if i < ks.length then (tyI ks i, (s.1, wr (decide (kindN (tyI ks i).t (tyI ks i).u < 0)) s.2)) else (⟨0, false⟩, (s.1, wr true s.2))
/-- types off what is left -/
def tzF (bd : Bool) (ks : List Ty) : Nat → Nat → List Ty → St → List Ty × St
  | 0, _, a, s => (a, s)
  | k + 1, i, a, s => if s.2 ≠ 0 then (a, s) else tzF bd ks k (i + 1) (a ++ [(tzS bd ks i s).1]) (tzS bd ks i s).2

theorem bd27 : buildV X 27 [] = some (.agg (.pc [.int .u8 0, .bool false])) := by kernel_rfl

section
variable (c : Nat) (n : Nat) (bd : Bool) (ck : Nat) (ks : List Ty)

def tzFr (i : Nat) (x : AM.Frame) : AM.Frame := [(0, .ptr 0 0 0 0), (1, .int .i64 (n : Nat)), (2, .bool bd), (3, .ro ck (.pr 2 (ks.map Ty.pay)) 4), (9, .sl 2 0 i i), (10, .int .i64 (i : Nat))] ++ x
structure TzHp (H : AM.Heap) (s : St) (a : List Ty) (i : Nat) : Prop where
  h0 : H[0]? = some (some (rdO c 5 5 s))
  hc : c = 0 → s.1 = []
  h2 : ∃ ob, H[2]? = some (some ob) ∧ Rw (.pr 2 (a.map Ty.pay)) i ob

theorem wr_at {H : AM.Heap} {s : St} (h : H[0]? = some (some (rdO c 5 5 s))) (bad : Bool) :
    evT X 31 [.ptr 0 0 0 0, .bool bad] H = some (.tup [], H.set 0 (some (rdO c 5 5 (s.1, wr bad s.2)))) :=
  wrong_ev (p := .pb s.1) (l := s.1) (e := s.2) (bad := bad) h (.inl rfl) (jt c 5 s)
theorem by_at {H : AM.Heap} {s : St} (h : H[0]? = some (some (rdO c 5 5 s))) (hc : c = 0 → s.1 = []) :
    evT X 33 [.ptr 0 0 0 0] H = some (.int .u8 ((fx 1 s).1 : Nat), H.set 0 (some (rdO c 5 5 (fx 1 s).2))) := byteF_ev h (jt c 5 s) hc

set_option maxRecDepth 100000 in
set_option maxHeartbeats 4000000 in
/-- the type told anew -/
theorem tz_new (i L : Nat) (s : St) (a : List Ty) (H : AM.Heap) (hs : s.2 = 0) (hH : TzHp c H s a i) (hL : H[L]? = some (some (tyO ⟨0, false⟩))) (hl : 2 < L) :
    ∃ H', TzHp c H' (tzS true ks i s).2 a i ∧ H'[L]? = some (some (tyO (tzS true ks i s).1)) ∧ ∃ code, ((Try.f34.body).bind (codeAt [1, 1, 0, 1, 0, 0, 1, 0, 0, 1, 0, 1, 0])) = some code ∧
      Run X (evT X) 34 1 code (tzFr n true ck ks i [(11, .ptr L 0 0 0), (26, .bool true)]) H ⟨.normal, tzFr n true ck ks i [(11, .ptr L 0 0 0)], H'⟩ := by
  obtain ⟨h0, hc, ⟨ob, h2, hw⟩⟩ := hH
  have hB1 := by_at c h0 hc
  have hk1 := fx_lt (n := 1) s
  have hn1 := fx_nil (n := 1) (s := s) hc
  unfold tzS
  simp only [if_true]
  generalize fx 1 s = x1 at *
  obtain ⟨y1, s1⟩ := x1
  simp only at hB1 hk1 hn1 ⊢
  generalize hH1 : H.set 0 (some (rdO c 5 5 s1)) = H1 at *
  have a0 : H1[0]? = some (some (rdO c 5 5 s1)) := by rw [← hH1]; exact at_set h0
  have a2 : H1[2]? = some (some ob) := by rw [← hH1]; exact at_ne h2 (by omega)
  have aL : H1[L]? = some (some (tyO ⟨0, false⟩)) := by rw [← hH1]; exact at_ne hL (by omega)
  generalize hH2 : H1.set L (some (tyO ⟨y1, false⟩)) = H2 at *
  have b0 : H2[0]? = some (some (rdO c 5 5 s1)) := by rw [← hH2]; exact at_ne a0 (by omega)
  have b2 : H2[2]? = some (some ob) := by rw [← hH2]; exact at_ne a2 (by omega)
  have bL : H2[L]? = some (some (tyO ⟨y1, false⟩)) := by rw [← hH2]; exact at_set aL
  have hK := rkind_ev (t := ⟨y1, false⟩) (by simp only; omega) H2
  have hW1 := wr_at c b0 (decide (kindN y1 false < 0))
  generalize hs2 : ((s1.1, wr (decide (kindN y1 false < 0)) s1.2) : St) = s2 at *
  have hn2 : c = 0 → s2.1 = [] := by rw [← hs2]; exact hn1
  generalize hH3 : H2.set 0 (some (rdO c 5 5 s2)) = H3 at *
  have c0 : H3[0]? = some (some (rdO c 5 5 s2)) := by rw [← hH3]; exact at_set b0
  have c2 : H3[2]? = some (some ob) := by rw [← hH3]; exact at_ne b2 (by omega)
  have cL : H3[L]? = some (some (tyO ⟨y1, false⟩)) := by rw [← hH3]; exact at_ne bL (by omega)
  have hB2 := by_at c c0 hn2
  have hn3 := fx_nil (n := 1) (s := s2) hn2
  generalize fx 1 s2 = x3 at *
  obtain ⟨y3, s3⟩ := x3
  simp only at hB2 hn3 ⊢
  generalize hH4 : H3.set 0 (some (rdO c 5 5 s3)) = H4 at *
  have d0 : H4[0]? = some (some (rdO c 5 5 s3)) := by rw [← hH4]; exact at_set c0
  have d2 : H4[2]? = some (some ob) := by rw [← hH4]; exact at_ne c2 (by omega)
  have dL : H4[L]? = some (some (tyO ⟨y1, false⟩)) := by rw [← hH4]; exact at_ne cL (by omega)
  have hW2 := wr_at c d0 (decide (y3 ≠ 0) && decide (y3 ≠ 128))
  generalize hs4 : ((s3.1, wr (decide (y3 ≠ 0) && decide (y3 ≠ 128)) s3.2) : St) = s4 at *
  have hn4 : c = 0 → s4.1 = [] := by rw [← hs4]; exact hn3
  generalize hH5 : H4.set 0 (some (rdO c 5 5 s4)) = H5 at *
  have e0 : H5[0]? = some (some (rdO c 5 5 s4)) := by rw [← hH5]; exact at_set d0
  have e2 : H5[2]? = some (some ob) := by rw [← hH5]; exact at_ne d2 (by omega)
  have eL : H5[L]? = some (some (tyO ⟨y1, false⟩)) := by rw [← hH5]; exact at_ne dL (by omega)
  refine ⟨H5.set L (some (tyO ⟨y1, decide (y3 = 128)⟩)), ⟨at_ne e0 (by omega), hn4, ob, at_ne e2 (by omega), hw⟩, at_set eL, _, rfl, ?_⟩
  apply Run.seq (fr' := tzFr n true ck ks i [(11, .ptr L 0 0 0)]) (H' := H2)
  · rw [← hH2]
    simp only [tyO, Ty.pay, Int.cast_ofNat_Int] at aL
    unfold tzFr
    generalize ks.map Ty.pay = K at *
    (refine ⟨0, ?_⟩; simp (maxSteps := 2000000) -implicitDefEqProofs [-getElem?_pos, List.getElem?_cons_zero, List.getElem?_cons_succ, go_sem, eqV, plen, loadV, storeV, hB1, aL, tyO, Ty.pay])
  apply Run.seq (fr' := tzFr n true ck ks i [(11, .ptr L 0 0 0)]) (H' := H3)
  · simp only [tyO, Ty.pay] at bL
    simp only [Ty.pay] at hK
    unfold tzFr
    generalize ks.map Ty.pay = K at *
    (refine ⟨0, ?_⟩; simp (maxSteps := 2000000) -implicitDefEqProofs [-getElem?_pos, List.getElem?_cons_zero, List.getElem?_cons_succ, go_sem, eqV, plen, loadV, storeV, bL, mkTy, hK, hW1])
  apply Run.seq (fr' := tzFr n true ck ks i [(11, .ptr L 0 0 0), (12, .int .u8 (y3 : Nat))]) (H' := H4)
  · unfold tzFr
    generalize ks.map Ty.pay = K at *
    (refine ⟨0, ?_⟩; simp (maxSteps := 2000000) -implicitDefEqProofs [-getElem?_pos, List.getElem?_cons_zero, List.getElem?_cons_succ, go_sem, eqV, plen, loadV, storeV, hB2])
  apply Run.seq (fr' := tzFr n true ck ks i [(11, .ptr L 0 0 0), (12, .int .u8 (y3 : Nat))]) (H' := H5)
  · unfold tzFr
    generalize ks.map Ty.pay = K at *
    by_cases h0 : y3 = 0
    · subst h0
      rw [show (decide ((0 : Nat) ≠ 0) && decide ((0 : Nat) ≠ 128)) = false from rfl] at hW2
      (refine ⟨0, ?_⟩; simp (maxSteps := 2000000) -implicitDefEqProofs [-getElem?_pos, List.getElem?_cons_zero, List.getElem?_cons_succ, go_sem, eqV, plen, loadV, storeV, hW2])
    · have q0 : ((y3 : Int) != 0) = true := by simp; omega
      have q1 : ((y3 : Int) != 128) = decide (y3 ≠ 128) := by
        by_cases h : y3 = 128
        · subst h; rfl
        · have : ((y3 : Int) != 128) = true := by simp; omega
          rw [this]; simp [h]
      rw [decide_eq_true h0, Bool.true_and] at hW2
      simp only [ne_eq, decide_not] at hW2 q1
      (refine ⟨0, ?_⟩; simp (maxSteps := 2000000) -implicitDefEqProofs [-getElem?_pos, List.getElem?_cons_zero, List.getElem?_cons_succ, go_sem, eqV, plen, loadV, storeV, q0, q1, hW2])
  · have q1 : ((y3 : Int) == 128) = decide (y3 = 128) := by
      by_cases h : y3 = 128
      · subst h; rfl
      · have : ((y3 : Int) == 128) = false := beq_eq_false_iff_ne.2 (by omega)
        rw [this]; simp [h]
    simp only [tyO, Ty.pay] at eL
    unfold tzFr
    generalize ks.map Ty.pay = K at *
    (refine ⟨0, ?_⟩; simp (maxSteps := 2000000) -implicitDefEqProofs [-getElem?_pos, List.getElem?_cons_zero, List.getElem?_cons_succ, go_sem, eqV, plen, loadV, storeV, q1, eL, tyO, Ty.pay])

end

end Go.Proofs.Ytbmddnokokoofaa

/- Walks: the document's reading of types: all of them. -/
namespace Go.Proofs.Ytbmddnokokoofaa
open Go.AM
set_option linter.unusedSimpArgs false
set_option linter.unusedVariables false

section
variable (c : Nat) (n : Nat) (bd : Bool) (ck : Nat) (ks : List Ty)

set_option maxRecDepth 100000 in
set_option maxHeartbeats 4000000 in
/-- the type that was known -/
theorem tz_old (i L : Nat) (s : St) (a : List Ty) (H : AM.Heap) (hi : i ≤ 9000000) (hkt : ∀ t ∈ ks, t.t < 256) (hH : TzHp c H s a i) (hL : H[L]? = some (some (tyO ⟨0, false⟩))) (hl : 2 < L) :
    ∃ H', TzHp c H' (tzS false ks i s).2 a i ∧ H'[L]? = some (some (tyO (tzS false ks i s).1)) ∧ ∃ code, ((Try.f34.body).bind (codeAt [1, 1, 0, 1, 0, 0, 1, 0, 0, 1, 0, 1, 1])) = some code ∧
      Tells (Goes fun fr H2 => H2 = H' ∧ fr = tzFr n false ck ks i [(11, .ptr L 0 0 0)]) X (evT X) 34 1 code (tzFr n false ck ks i [(11, .ptr L 0 0 0), (26, .bool false)]) H := by
  obtain ⟨h0, hc, ⟨ob, h2, hw⟩⟩ := hH
  have hkl : (ks.map Ty.pay).length = ks.length := List.length_map _
  unfold tzS
  simp only [Bool.false_eq_true, if_false]
  by_cases hik : i < ks.length
  · rw [if_pos hik]
    have hiI : (i : Int) < (ks.length : Int) := by omega
    obtain ⟨t, ht⟩ : ∃ t, ks[i]? = some t := ⟨_, List.getElem?_eq_getElem hik⟩
    have hti : tyI ks i = t := by unfold tyI; rw [List.getD, ht]; rfl
    rw [hti]
    have htt := hkt t (List.mem_of_getElem? ht)
    have hrow : (ks.map Ty.pay)[i]? = some (.pc [.int .u8 (t.t : Nat), .bool t.u]) := by rw [List.getElem?_map, ht]; rfl
    generalize hH1 : H.set L (some (tyO t)) = H1 at *
    have a0 : H1[0]? = some (some (rdO c 5 5 s)) := by rw [← hH1]; exact at_ne h0 (by omega)
    have a2 : H1[2]? = some (some ob) := by rw [← hH1]; exact at_ne h2 (by omega)
    have aL : H1[L]? = some (some (tyO t)) := by rw [← hH1]; exact at_set hL
    have hK := rkind_ev (t := t) htt H1
    have hW := wr_at c a0 (decide (kindN t.t t.u < 0))
    refine ⟨H1.set 0 (some (rdO c 5 5 (s.1, wr (decide (kindN t.t t.u < 0)) s.2))), ⟨at_set a0, hc, ob, at_ne a2 (by omega), hw⟩, at_ne aL (by omega), _, rfl, ?_⟩
    refine Tells.of (o := ⟨.normal, tzFr n false ck ks i [(11, .ptr L 0 0 0)], _⟩) ?_ ⟨rfl, rfl, rfl⟩
    generalize hH2 : H1.set 0 (some (rdO c 5 5 (s.1, wr (decide (kindN t.t t.u < 0)) s.2))) = H2 at *
    unfold tzFr
    generalize ks.map Ty.pay = K at *
    apply Run.seq (fr' := [(0, .ptr 0 0 0 0), (1, .int .i64 (n : Nat)), (2, .bool false), (3, .ro ck (.pr 2 K) 4), (9, .sl 2 0 i i), (10, .int .i64 (i : Nat)), (11, .ptr L 0 0 0), (51, .bool true)]) (H' := H)
    · (refine ⟨0, ?_⟩; simp (maxSteps := 2000000) -implicitDefEqProofs [-getElem?_pos, List.getElem?_cons_zero, List.getElem?_cons_succ, go_sem, eqV, plen, loadV, storeV, hkl, hiI, hik])
    refine condT (by simp [evalO, getF]) ?_
    apply Run.seq (fr' := [(0, .ptr 0 0 0 0), (1, .int .i64 (n : Nat)), (2, .bool false), (3, .ro ck (.pr 2 K) 4), (9, .sl 2 0 i i), (10, .int .i64 (i : Nat)), (11, .ptr L 0 0 0)]) (H' := H1)
    · rw [← hH1]
      simp only [tyO, Ty.pay, Int.cast_ofNat_Int] at hL
      (refine ⟨0, ?_⟩; simp (maxSteps := 2000000) -implicitDefEqProofs [-getElem?_pos, List.getElem?_cons_zero, List.getElem?_cons_succ, go_sem, eqV, plen, loadV, storeV, hkl, hiI, hik, hrow, hL, tyO, Ty.pay, mkTy, retagL, retag, retagP, flatCells, splice, scalars, scalar])
    · simp only [tyO, Ty.pay] at aL
      simp only [Ty.pay] at hK
      (refine ⟨0, ?_⟩; simp (maxSteps := 2000000) -implicitDefEqProofs [-getElem?_pos, List.getElem?_cons_zero, List.getElem?_cons_succ, go_sem, eqV, plen, loadV, storeV, aL, mkTy, hK, hW])
  · rw [if_neg hik]
    have hiI : ¬ (i : Int) < (ks.length : Int) := by omega
    have hW := wr_at c h0 true
    refine ⟨H.set 0 (some (rdO c 5 5 (s.1, wr true s.2))), ⟨at_set h0, hc, ob, at_ne h2 (by omega), hw⟩, at_ne hL (by omega), _, rfl, ?_⟩
    refine Tells.of (o := ⟨.normal, tzFr n false ck ks i [(11, .ptr L 0 0 0)], _⟩) ?_ ⟨rfl, rfl, rfl⟩
    generalize hH2 : H.set 0 (some (rdO c 5 5 (s.1, wr true s.2))) = H2 at *
    unfold tzFr
    generalize ks.map Ty.pay = K at *
    apply Run.seq (fr' := [(0, .ptr 0 0 0 0), (1, .int .i64 (n : Nat)), (2, .bool false), (3, .ro ck (.pr 2 K) 4), (9, .sl 2 0 i i), (10, .int .i64 (i : Nat)), (11, .ptr L 0 0 0), (51, .bool false)]) (H' := H)
    · (refine ⟨0, ?_⟩; simp (maxSteps := 2000000) -implicitDefEqProofs [-getElem?_pos, List.getElem?_cons_zero, List.getElem?_cons_succ, go_sem, eqV, plen, loadV, storeV, hkl, hiI, hik])
    refine condF (by simp [evalO, getF]) ?_
    (refine ⟨0, ?_⟩; simp (maxSteps := 2000000) -implicitDefEqProofs [-getElem?_pos, List.getElem?_cons_zero, List.getElem?_cons_succ, go_sem, eqV, plen, loadV, storeV, hW])

set_option maxRecDepth 100000 in
set_option maxHeartbeats 4000000 in
/-- a round -/
theorem tz_round (i : Nat) (s : St) (a : List Ty) (H : AM.Heap) (hi : i ≤ 9000000) (hin : i < n) (hs : s.2 = 0) (ha : a.length = i) (hkt : ∀ t ∈ ks, t.t < 256) (hH : TzHp c H s a i) :
    ∃ code, ((Try.f34.body).bind (codeAt [1, 1, 0, 1, 0, 0])) = some code ∧
      Tells (Goes fun fr H2 => fr = tzFr n bd ck ks (i + 1) [] ∧ TzHp c H2 (tzS bd ks i s).2 (a ++ [(tzS bd ks i s).1]) (i + 1)) X (evT X) 34 1 code (tzFr n bd ck ks i []) H := by
  refine ⟨_, rfl, ?_⟩
  have hiI : (i : Int) < (n : Int) := by omega
  have w1 : IntKind.i64.wrap ((i : Int) + 1) = ((i + 1 : Nat) : Int) := by rw [wrap_i64 (by omega) (by omega)]; omega
  have h00 : H[0]? = some (some ⟨.pc [.ro c (.pb s.1) 5, .int .i64 0], 0, some 2, 1, false, true, 5⟩) := by rw [hH.h0]; unfold rdO; rw [hs]
  have hl2 := at_lt hH.h2.choose_spec.1
  apply Tells.assoc
  apply Tells.seq (fr' := tzFr n bd ck ks i [(22, .bool true)]) (H' := H)
  · unfold tzFr
    generalize ks.map Ty.pay = K at *
    (refine ⟨0, ?_⟩; simp (maxSteps := 2000000) -implicitDefEqProofs [-getElem?_pos, List.getElem?_cons_zero, List.getElem?_cons_succ, go_sem, eqV, plen, loadV, storeV, hiI, hin, h00])
  apply Tells.seq (fr' := tzFr n bd ck ks i [(22, .bool true)]) (H' := H)
  · exact condT (by simp [evalO, getF, tzFr]) ⟨0, rfl⟩
  apply Tells.andThen (P := fun fr H2 => fr = [(0, .ptr 0 0 0 0), (1, .int .i64 (n : Nat)), (2, .bool bd), (3, .ro ck (.pr 2 (ks.map Ty.pay)) 4), (9, .sl 2 0 (i + 1) (i + 1)), (10, .int .i64 (i : Nat))] ∧ TzHp c H2 (tzS bd ks i s).2 (a ++ [(tzS bd ks i s).1]) (i + 1))
  case h' =>
    rintro fr H2 ⟨rfl, h2⟩
    refine Tells.of (o := ⟨.normal, tzFr n bd ck ks (i + 1) [], H2⟩) ⟨0, ?_⟩ ⟨rfl, rfl, h2⟩
    unfold tzFr
    generalize ks.map Ty.pay = K at *
    simp (maxSteps := 2000000) -implicitDefEqProofs [-getElem?_pos, List.getElem?_cons_zero, List.getElem?_cons_succ, go_sem, eqV, plen, loadV, storeV, w1]
  case h =>
  apply Tells.blk (hq := fun o h => by rw [h.1]; simp)
  have hnew : ∀ x : Option AM.Obj, (H ++ [x])[H.length]? = some x := fun x => by simp
  apply Tells.seq (fr' := tzFr n bd ck ks i [(11, .ptr H.length 0 0 0)]) (H' := H ++ [some (tyO ⟨0, false⟩)])
  · unfold tzFr
    have hbd := bd27
    generalize ks.map Ty.pay = K at *
    (refine ⟨0, ?_⟩; simp (maxSteps := 2000000) -implicitDefEqProofs [-getElem?_pos, List.getElem?_cons_zero, List.getElem?_cons_succ, go_sem, eqV, plen, loadV, storeV, hbd, hnew, tyO, Ty.pay, mkTy, retagL, retag, retagP, flatCells, splice, scalars, scalar])
  have hH2 : TzHp c (H ++ [some (tyO ⟨0, false⟩)]) s a i := by
    obtain ⟨k0, kc, ob, k2, kw⟩ := hH
    exact ⟨at_cat k0, kc, ob, at_cat k2, kw⟩
  have hL := hnew (some (tyO ⟨0, false⟩))
  generalize H ++ [some (tyO ⟨0, false⟩)] = H1 at *
  generalize H.length = L at *
  apply Tells.andThen (P := fun fr H2 => fr = tzFr n bd ck ks i [(11, .ptr L 0 0 0)] ∧ TzHp c H2 (tzS bd ks i s).2 a i ∧ H2[L]? = some (some (tyO (tzS bd ks i s).1)))
  · apply Tells.seq (fr' := tzFr n bd ck ks i [(11, .ptr L 0 0 0), (26, .bool bd)]) (H' := H1)
    · unfold tzFr
      generalize ks.map Ty.pay = K at *
      (refine ⟨0, ?_⟩; simp (maxSteps := 2000000) -implicitDefEqProofs [-getElem?_pos, List.getElem?_cons_zero, List.getElem?_cons_succ, go_sem, eqV, plen, loadV, storeV])
    cases bd with
    | true =>
      refine Tells.condT (by simp [evalO, getF, tzFr]) ?_
      obtain ⟨H', q1, q2, q3⟩ := tz_new c n ck ks i L s a H1 hs hH2 hL (by omega)
      exact Tells.of (piece q3 _ rfl) ⟨rfl, rfl, q1, q2⟩
    | false =>
      refine Tells.condF (by simp [evalO, getF, tzFr]) ?_
      obtain ⟨H', q1, q2, q3⟩ := tz_old c n ck ks i L s a H1 hi hkt hH2 hL (by omega)
      refine (piece q3 _ rfl).mono ?_
      rintro o ⟨h1, h2, h3⟩
      exact ⟨h1, h3, by rw [h2]; exact q1, by rw [h2]; exact q2⟩
  rintro fr H2 ⟨rfl, hH3, hL2⟩
  generalize tzS bd ks i s = x at *
  obtain ⟨t, s2⟩ := x
  simp only at hH3 hL2 ⊢
  obtain ⟨k0, kc, ob, k2, kw⟩ := hH3
  have hlen : (a.map Ty.pay).length = i := by rw [List.length_map, ha]
  obtain ⟨ob', hw', hA⟩ := app_rows (C := X) (H := H2) (T := 43) (e := 27) (es := 2) (o := 2) (m := [t.pay]) (src := .ro 1 (.pr 2 [t.pay]) 0) (by simp) (by simp) (by omega) (by simp) (by simp) k2 kw rfl (by rw [hlen]; simp; omega)
  rw [hlen] at hA
  refine Tells.of (o := ⟨.normal, _, upd H2 2 (some ob')⟩) ⟨0, ?_⟩ ⟨rfl, rfl, at_ne k0 (by omega), kc, ob', at_set k2, by rw [List.map_append]; exact hw'⟩
  have hbs := fun H k u => bsTy H k u
  simp only [Ty.pay, List.length_cons, List.length_nil, Nat.zero_add] at hA
  simp only [tyO, Ty.pay] at hL2
  unfold tzFr
  generalize ks.map Ty.pay = K at *
  simp (maxSteps := 2000000) -implicitDefEqProofs [-getElem?_pos, List.getElem?_cons_zero, List.getElem?_cons_succ, go_sem, eqV, plen, loadV, storeV, hL2, mkTy, hbs, hA, assignV]

set_option maxRecDepth 100000 in
set_option maxHeartbeats 4000000 in
theorem tz_code (s : St) (hn : n ≤ 65535) (hc : c = 0 → s.1 = []) (hkt : ∀ t ∈ ks, t.t < 256) : ∃ code, Try.f34.body = some code ∧
    Tells (Rets fun fr H => ∃ ob g, getF fr 8 = .sl 2 0 (tzF bd ks n 0 [] s).1.length g ∧ H[2]? = some (some ob) ∧ Rw (.pr 2 ((tzF bd ks n 0 [] s).1.map Ty.pay)) g ob ∧ H[0]? = some (some (rdO c 5 5 (tzF bd ks n 0 [] s).2)) ∧ (c = 0 → (tzF bd ks n 0 [] s).2.1 = [])) X (evT X) 34 1 code [(0, .ptr 0 0 0 0), (1, .int .i64 (n : Nat)), (2, .bool bd), (3, .ro ck (.pr 2 (ks.map Ty.pay)) 4)] [some (rdO c 5 5 s)] := by
  refine ⟨_, rfl, ?_⟩
  apply Tells.seq (fr' := [(0, .ptr 0 0 0 0), (1, .int .i64 (n : Nat)), (2, .bool bd), (3, .ro ck (.pr 2 (ks.map Ty.pay)) 4)]) (H' := [some (rdO c 5 5 s), some nilT])
  · generalize ks.map Ty.pay = K at *
    (refine ⟨0, ?_⟩; simp (maxSteps := 2000000) -implicitDefEqProofs [-getElem?_pos, List.getElem?_cons_zero, List.getElem?_cons_succ, go_sem, eqV, plen, loadV, storeV, assignV, emT])
  apply Tells.seq (fr' := [(0, .ptr 0 0 0 0), (1, .int .i64 (n : Nat)), (2, .bool bd), (3, .ro ck (.pr 2 (ks.map Ty.pay)) 4), (9, .sl 2 0 0 0)]) (H' := [some (rdO c 5 5 s), some nilT, some nilT])
  · generalize ks.map Ty.pay = K at *
    (refine ⟨0, ?_⟩; simp (maxSteps := 2000000) -implicitDefEqProofs [-getElem?_pos, List.getElem?_cons_zero, List.getElem?_cons_succ, go_sem, eqV, plen, loadV, storeV, assignV, emT])
  apply Tells.assoc
  apply Tells.seq (fr' := tzFr n bd ck ks 0 []) (H' := [some (rdO c 5 5 s), some nilT, some nilT])
  · unfold tzFr
    generalize ks.map Ty.pay = K at *
    (refine ⟨0, ?_⟩; simp (maxSteps := 2000000) -implicitDefEqProofs [-getElem?_pos, List.getElem?_cons_zero, List.getElem?_cons_succ, go_sem, eqV, plen, loadV, storeV])
  apply Tells.blockThen (P := fun fr H => ∃ i, i = (tzF bd ks n 0 [] s).1.length ∧ fr = tzFr n bd ck ks i [(22, .bool false)] ∧ TzHp c H (tzF bd ks n 0 [] s).2 (tzF bd ks n 0 [] s).1 i)
  · refine Tells.loopP (fun k fr H => ∃ i a s', k = n - i ∧ i ≤ n ∧ a.length = i ∧ fr = tzFr n bd ck ks i [] ∧ TzHp c H s' a i ∧ tzF bd ks n 0 [] s = tzF bd ks (n - i) i a s') ?_ (k := n) ⟨0, [], s, rfl, by omega, rfl, rfl, ⟨rfl, hc, nilT, rfl, nilT_rw⟩, rfl⟩
    rintro k fr H ⟨i, a, s', rfl, hi, ha, rfl, hH, hF⟩
    by_cases hin : i = n
    · subst hin
      rw [Nat.sub_self, tzF] at hF
      rw [hF]
      refine Tells.of (o := ⟨.exit 0, tzFr i bd ck ks i [(22, .bool false)], H⟩) ⟨0, ?_⟩ (.inr ⟨by simp, .inl ⟨rfl, i, ha.symm, rfl, hH⟩⟩)
      unfold tzFr
      generalize ks.map Ty.pay = K at *
      simp (maxSteps := 2000000) -implicitDefEqProofs [-getElem?_pos, List.getElem?_cons_zero, List.getElem?_cons_succ, go_sem, eqV, plen, loadV, storeV]
    have hs : n - i = (n - (i + 1)) + 1 := by omega
    rw [hs, tzF] at hF
    by_cases he : s'.2 = 0
    · rw [if_neg (by simpa using he)] at hF
      refine (piece (tz_round c n bd ck ks i s' a H (by omega) (by omega) he ha hkt hH) _ rfl).mono ?_
      rintro o ⟨h1, h2, h3⟩
      exact .inl ⟨h1, n - (i + 1), by omega, i + 1, _, _, rfl, by omega, by simp [ha], h2, h3, hF⟩
    · rw [if_pos he] at hF
      rw [hF]
      have hiI : (i : Int) < (n : Int) := by omega
      have hiN : i < n := by omega
      have heb : (s'.2 == 0) = false := beq_eq_false_iff_ne.2 he
      refine Tells.of (o := ⟨.exit 0, tzFr n bd ck ks i [(22, .bool false)], H⟩) ⟨0, ?_⟩ (.inr ⟨by simp, .inl ⟨rfl, i, ha.symm, rfl, hH⟩⟩)
      have h00 := hH.h0
      unfold rdO at h00
      unfold tzFr
      generalize ks.map Ty.pay = K at *
      simp (maxSteps := 2000000) -implicitDefEqProofs [-getElem?_pos, List.getElem?_cons_zero, List.getElem?_cons_succ, go_sem, eqV, plen, loadV, storeV, hiI, hiN, h00, heb]
  rintro fr H ⟨i, hi, rfl, h0, hc', ob, h2, hw⟩
  refine Tells.of (o := ⟨.ret, [(8, .sl 2 0 i i)], H⟩) ⟨0, ?_⟩ ⟨rfl, ob, i, by rw [← hi]; rfl, h2, hw, h0, hc'⟩
  unfold tzFr
  generalize ks.map Ty.pay = K at *
  simp (maxSteps := 2000000) -implicitDefEqProofs [-getElem?_pos, List.getElem?_cons_zero, List.getElem?_cons_succ, go_sem, eqV, plen, loadV, storeV, assignV]

end

theorem emTp : emptyRow X 27 = .pr 2 [] := by kernel_rfl

theorem tz_ev {H : AM.Heap} {o c t tg n : Nat} {s : St} {bd : Bool} {A : AV} {ks : List Ty} (ho : H[o]? = some (some (rdO c t tg s))) (hj : joinTags (tagsOb (rdO c t tg s)) = some t) (hc : c = 0 → s.1 = []) (hn : n ≤ 65535) (hkt : ∀ t ∈ ks, t.t < 256) (ck kt : Nat) (hA : A = .ro ck (.pr 2 (ks.map Ty.pay)) kt) :
    (c = 0 → (tzF bd ks n 0 [] s).2.1 = []) ∧ ∃ ob, Rw (.pr 2 ((tzF bd ks n 0 [] s).1.map Ty.pay)) 0 ob ∧ evT X 34 [.ptr o 0 0 0, .int .i64 (n : Nat), .bool bd, A] H = some (.sl H.length 0 (tzF bd ks n 0 [] s).1.length 0, upd H o (some (rdO c t t (tzF bd ks n 0 [] s).2)) ++ [some ob]) := by
  subst hA
  obtain ⟨code, hcode, ⟨ex, fr, H1⟩, ⟨he, ob, g, q1, q2, hw, q0, hcn⟩, hr⟩ := tz_code c n bd ck ks s hn hc hkt
  simp only at he q1 q2 q0
  subst he
  obtain ⟨z0, rest, hH1⟩ : ∃ z0 rest, H1 = z0 :: rest := by cases H1 with | nil => cases q0 | cons a r => exact ⟨a, r, rfl⟩
  subst hH1
  have hz : z0 = some (rdO c 5 5 (tzF bd ks n 0 [] s).2) := Option.some.inj q0
  subst hz
  have hid := ty_ids (tzF bd ks n 0 [] s).1
  have hx : lendArgs X 34 H 1 [.int .i64 (n : Nat), .bool bd, .ro ck (.pr 2 (ks.map Ty.pay)) kt] = some ([.int .i64 (n : Nat), .bool bd, .ro ck (.pr 2 (ks.map Ty.pay)) 4], [⟨[], []⟩, ⟨[], []⟩, ⟨[], [kt]⟩]) :=
    args_flat rfl rfl (args_flat rfl rfl (by simp only [lendArgs]; rfl))
  have hid2 := ty_ids ks
  have := Ev1.boxNewR (C := X) (f := 34) (H := H) (o := o) (g := 0) (ob := rdO c t tg s) (ob1 := rdO c 5 5 (tzF bd ks n 0 [] s).2) (n := 5) (t := t) (rest := rest) (o1 := 2) (g1 := g) (ob2 := ob)
    (l := [.sl 2 0 (tzF bd ks n 0 [] s).1.length g]) (evT_below X) Try.func34 hcode rfl ho rfl rfl hx (by simp [idsL, ids, hid2.1]) rfl rfl (by simp [gtag]) hj (by rw [par34]; exact hr) (.inr rfl) (by show some [getF fr 8] = _; rw [q1]) rfl rfl rfl rfl (by simp only [live]; rw [q2]; simp [hw.g]) (by omega) hw.ids (by rw [hw.p]; exact hid.1) (by rw [hw.p]; exact hid.2) (by simp [tagsOb, hw.ids, hw.p, hw.tg]) hw.tg
    (by intro k hk; simp [resultV, tags, tagsOb, rdO, tagsL] at hk; omega) (.inr rfl)
  refine ⟨hcn, AM.fresh ob, ⟨hw.p, rfl, hw.row, hw.ids, rfl⟩, evT_eq ?_⟩
  simpa [rdO, ren, renL, bk, resultV] using this

end Go.Proofs.Ytbmddnokokoofaa

/- Walks: the document's reading of parameters: what came as long data. -/
namespace Go.Proofs.Ytbmddnokokoofaa
open Go.AM
set_option linter.unusedSimpArgs false
set_option linter.unusedVariables false

theorem wr_wr (x y : Bool) (e : Int) : wr x (wr y e) = wr (y || x) e := by
  unfold wr
  by_cases h : e = 0
  · subst h
    cases y <;> cases x <;> simp
  · simp [h]

/-- is something said of a parameter that came as long data? -/
def lbF (d : List UInt8) (g : List Bool) (n : Nat) : Bool := (List.range n).any fun i => lgB g i && bitB d i
theorem lbF_succ (d : List UInt8) (g : List Bool) (n : Nat) : lbF d g (n + 1) = (lbF d g n || (lgB g n && bitB d n)) := by
  unfold lbF; rw [List.range_succ, List.any_append]; simp

/-- a box of fields changed -/
theorem wr1 {H : AM.Heap} {c : Nat} {s : St} (h : H[1]? = some (some (rdO c 1 1 s))) (bad : Bool) :
    evT X 31 [.ptr 1 0 0 0, .bool bad] H = some (.tup [], H.set 1 (some (rdO c 1 1 (s.1, wr bad s.2)))) :=
  wrong_ev (p := .pb s.1) (l := s.1) (e := s.2) (bad := bad) h (.inl rfl) (jt c 1 s)
theorem by1 {H : AM.Heap} {c : Nat} {s : St} (h : H[1]? = some (some (rdO c 1 1 s))) (hc : c = 0 → s.1 = []) :
    evT X 33 [.ptr 1 0 0 0] H = some (.int .u8 ((fx 1 s).1 : Nat), H.set 1 (some (rdO c 1 1 (fx 1 s).2))) := byteF_ev h (jt c 1 s) hc

section
variable (c n : Nat) (d : List UInt8) (cg : Nat) (g : List Bool) (A : AV)

def qlFr (i : Nat) : AM.Frame := [(1, .int .i64 (n : Nat)), (2, A), (3, .ro cg (.pc (g.map .bool)) 4), (11, .ptr 1 0 0 0), (12, .sl 2 0 d.length 0), (13, .int .i64 (i : Nat))]

set_option maxRecDepth 100000 in
set_option maxHeartbeats 4000000 in
theorem ql_round (i : Nat) (s : St) (ob : AM.Obj) (hw : Rw (.pb d) 0 ob) (hin : i < n) (hn : n ≤ 65535) (hd : n ≤ 8 * d.length) (hig : i < g.length) :
    ∃ code, ((Try.f15.body).bind (codeAt [1, 1, 1, 1, 1, 1, 0, 1, 0, 0])) = some code ∧ Tells (Goes fun fr H => fr = qlFr n d cg g A (i + 1) ∧ H = [some nilP, some (rdO c 1 1 (s.1, wr (lgB g i && bitB d i) s.2)), some ob]) X (evT X) 15 0 code (qlFr n d cg g A i) [some nilP, some (rdO c 1 1 s), some ob] := by
  refine ⟨_, rfl, ?_⟩
  have hiI : (i : Int) < (n : Int) := by omega
  have hgI : (i : Int) < (g.length : Int) := by omega
  have hgl : (g.map AV.bool).length = g.length := List.length_map _
  have w1 : IntKind.i64.wrap ((i : Int) + 1) = ((i + 1 : Nat) : Int) := by rw [wrap_i64 (by omega) (by omega)]; omega
  obtain ⟨y, hy⟩ : ∃ y, d[i / 8]? = some y := ⟨_, List.getElem?_eq_getElem (by omega)⟩
  obtain ⟨lg, hlg⟩ : ∃ lg, g[i]? = some lg := ⟨_, List.getElem?_eq_getElem hig⟩
  have hlgB : lgB g i = lg := by unfold lgB; rw [List.getD, hlg]; rfl
  have hrow : (g.map AV.bool)[i]? = some (.bool lg) := by rw [List.getElem?_map, hlg]; rfl
  have hbit : bitB d i = ((y.toNat / 2 ^ (i % 8)) % 2 == 1) := by unfold bitB; rw [List.getD, hy]; rfl
  have e1 : Int.tdiv (i : Int) 8 = ((i / 8 : Nat) : Int) := by rw [Int.tdiv_eq_ediv_of_nonneg (by omega)]; omega
  have e2 : Int.tmod (i : Int) 8 = ((i % 8 : Nat) : Int) := by rw [Int.tmod_eq_emod_of_nonneg (by omega)]; omega
  have e3 : (i : Int) / 8 = ((i / 8 : Nat) : Int) := by omega
  have e4 : (i : Int) % 8 = ((i % 8 : Nat) : Int) := by omega
  have wq : IntKind.i64.wrap ((i / 8 : Nat) : Int) = ((i / 8 : Nat) : Int) := wrap_i64 (by omega) (by omega)
  have wr8 : IntKind.i64.wrap ((i % 8 : Nat) : Int) = ((i % 8 : Nat) : Int) := wrap_i64 (by omega) (by omega)
  have wu8 : IntKind.u64.wrap ((i % 8 : Nat) : Int) = ((i % 8 : Nat) : Int) := wrap_u64 (by omega) (by omega)
  have hii : ((i / 8 : Nat) : Int) < (d.length : Int) := by omega
  have hin : i / 8 < d.length := by omega
  have hr0 : ¬ ((i % 8 : Nat) : Int) < 0 := by omega
  have hsh := shr8 (y := y.toNat) (j := i % 8) (Nat.mod_lt _ (by omega))
  have han := and1 (y := y.toNat) (j := i % 8) y.toNat_lt
  have heq : ∀ z : Nat, ((z : Int) == 1) = (z == 1) := by
    intro z
    by_cases h : z = 1
    · subst h; rfl
    · have : (z == 1) = false := by simpa using h
      rw [this]; exact beq_eq_false_iff_ne.2 (by omega)
  have hW := wr1 (H := [some nilP, some (rdO c 1 1 s), some ob]) (c := c) (s := s) rfl
  obtain ⟨p, gg, cap, zz, row, ids, tg⟩ := ob
  obtain ⟨q1, q2, q3, q4, q5⟩ := hw
  simp only at q1 q2 q3 q4 q5
  subst q1 q2 q3 q4 q5
  simp only [List.set_cons_succ, List.set_cons_zero] at hW
  rw [hlgB, hbit]
  refine Tells.of (o := ⟨.normal, qlFr n d cg g A (i + 1), _⟩) ⟨0, ?_⟩ ⟨rfl, rfl, rfl⟩
  unfold qlFr
  generalize g.map AV.bool = G at *
  generalize i / 8 = q at *
  generalize i % 8 = r at *
  generalize y.toNat / 2 ^ r = dd at *
  have han2 := han
  simp only [go_sem] at han2
  simp only [BitVec.toNat_and] at han
  have hq := heq (dd % 2)
  generalize hddd : (dd % 2 == 1) = z at *
  generalize dd % 2 = d2 at *
  cases lg with
  | false =>
    rw [Bool.false_and]
    have hW := hW false
    generalize rdO c 1 1 s = ob1 at *
    generalize rdO c 1 1 (s.1, wr false s.2) = ob2 at *
    simp (maxSteps := 2000000) -implicitDefEqProofs [-getElem?_pos, List.getElem?_cons_zero, List.getElem?_cons_succ, go_sem, eqV, plen, loadV, storeV, w1, hiI, hgI, hgl, hrow, hig, hW]
  | true =>
    rw [Bool.true_and]
    have hW := hW z
    generalize rdO c 1 1 s = ob1 at *
    generalize rdO c 1 1 (s.1, wr z s.2) = ob2 at *
    simp (maxSteps := 2000000) -implicitDefEqProofs [-getElem?_pos, List.getElem?_cons_zero, List.getElem?_cons_succ, go_sem, eqV, plen, loadV, storeV, w1, hiI, hgI, hgl, hrow, hig, e1, e2, e3, e4, wq, wr8, wu8, hii, hin, hy, hr0, hsh, han, han2, hq, hW, show IntKind.u8.bits = 8 from rfl]

set_option maxRecDepth 100000 in
set_option maxHeartbeats 4000000 in
theorem ql_loop (s : St) (ob : AM.Obj) (hw : Rw (.pb d) 0 ob) (hn : n ≤ 65535) (hd : n ≤ 8 * d.length) :
    ∃ code, ((Try.f15.body).bind (codeAt [1, 1, 1, 1, 1, 1, 0, 1])) = some code ∧ Tells (Goes fun fr H => fr = qlFr n d cg g A (min n g.length) ++ [(51, .bool false)] ∧ H = [some nilP, some (rdO c 1 1 (s.1, wr (lbF d g (min n g.length)) s.2)), some ob]) X (evT X) 15 0 code (qlFr n d cg g A 0) [some nilP, some (rdO c 1 1 s), some ob] := by
  refine ⟨_, rfl, ?_⟩
  apply Tells.block
  refine Tells.loopP (fun k fr H => ∃ i, k = min n g.length - i ∧ i ≤ min n g.length ∧ fr = qlFr n d cg g A i ∧ H = [some nilP, some (rdO c 1 1 (s.1, wr (lbF d g i) s.2)), some ob]) ?_ (k := min n g.length) ⟨0, rfl, by omega, rfl, by
    have : wr (lbF d g 0) s.2 = s.2 := if_neg (by simp [lbF])
    rw [this]⟩
  rintro k fr H ⟨i, rfl, hi, rfl, rfl⟩
  by_cases hin : i = min n g.length
  · rw [← hin]
    have hgl : (g.map AV.bool).length = g.length := List.length_map _
    refine Tells.of (o := ⟨.exit 0, qlFr n d cg g A i ++ [(51, .bool false)], _⟩) ⟨0, ?_⟩ (.inr ⟨by simp, rfl, rfl, rfl⟩)
    generalize rdO c 1 1 (s.1, wr (lbF d g i) s.2) = ob1 at *
    unfold qlFr
    by_cases h1 : i < n
    · have h1I : (i : Int) < (n : Int) := by omega
      have h2I : ¬ (i : Int) < (g.length : Int) := by omega
      have h2 : ¬ i < g.length := by omega
      generalize g.map AV.bool = G at *
      simp (maxSteps := 2000000) -implicitDefEqProofs [-getElem?_pos, List.getElem?_cons_zero, List.getElem?_cons_succ, go_sem, eqV, plen, loadV, storeV, h1, h1I, hgl, h2, h2I]
    · have h1I : ¬ (i : Int) < (n : Int) := by omega
      generalize g.map AV.bool = G at *
      simp (maxSteps := 2000000) -implicitDefEqProofs [-getElem?_pos, List.getElem?_cons_zero, List.getElem?_cons_succ, go_sem, eqV, plen, loadV, storeV, h1, h1I]
  have hlt : i < min n g.length := by omega
  refine (piece (ql_round c n d cg g A i (s.1, wr (lbF d g i) s.2) ob hw (by omega) hn hd (by omega)) _ rfl).mono ?_
  rintro o ⟨h1, h2, h3⟩
  refine .inl ⟨h1, min n g.length - (i + 1), by omega, i + 1, rfl, by omega, h2, ?_⟩
  rw [h3, lbF_succ, wr_wr]

end

end Go.Proofs.Ytbmddnokokoofaa
