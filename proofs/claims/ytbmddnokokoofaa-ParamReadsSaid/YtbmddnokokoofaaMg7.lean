/- T6 to T7: texts of this claim, one behind the other; what each shows stands at its head. -/
import Derived.Test.YtbmddnokokoofaaAm3
import Derived.Test.YtbmddnokokoofaaMg6
/- Walks: the law ParamReads. -/
namespace Go.Proofs.Ytbmddnokokoofaa
open Go.AM
set_option linter.unusedSimpArgs false
set_option linter.unusedVariables false

theorem pmEqF (a0 a3 a4 a5 a8 a9 a10 a11 a12 a13 a14 : Int) (a1 a2 a7 : Bool) (a6 : List UInt8) (xo yo : Operand) (H : AM.Heap) :
    eqV X H 34 (.agg (.pc [.int .u8 a0, .bool a1, .bool a2, .int .i64 a3, .int .i64 a4, .int .u64 a5, .str a6, .bool a7, .int .i64 a8, .int .i64 a9, .int .i64 a10, .int .i64 a11, .int .i64 a12, .int .i64 a13, .int .i64 a14])) (.agg (.pc [.int .u8 a0, .bool a1, .bool a2, .int .i64 a3, .int .i64 a4, .int .u64 a5, .str a6, .bool a7, .int .i64 a8, .int .i64 a9, .int .i64 a10, .int .i64 a11, .int .i64 a12, .int .i64 a13, .int .i64 a14])) xo yo =
      some ((a0 == a0 && (a1 == a1 && true)) && (a2 == a2 && ((a3 == a3 && (a4 == a4 && (a5 == a5 && (a6 == a6 && ((a7 == a7 && (a8 == a8 && (a9 == a9 && (a10 == a10 && (a11 == a11 && (a12 == a12 && (a13 == a13 && (a14 == a14 && true)))))))) && true))))) && true))) := by kernel_rfl
theorem eqPm (p : Pm) (xo yo : Operand) (H : AM.Heap) : eqV X H 34 (.agg p.pay) (.agg p.pay) xo yo = some true := by
  unfold Pm.pay
  rw [pmEqF]
  simp

section
variable (c c2 : Nat) (l : List Pm)

def spFr (i : Nat) : AM.Frame := [(0, .ro c (.pr 15 (l.map Pm.pay)) 1), (1, .ro c2 (.pr 15 (l.map Pm.pay)) 2), (5, .int .i64 (i : Nat))]

set_option maxRecDepth 100000 in
set_option maxHeartbeats 4000000 in
theorem sp_round (i : Nat) (p : Pm) (hl : l.length ≤ 100000000) (hp : l[i]? = some p) :
    ∃ code, ((Try.f16.body).bind (codeAt [1, 1, 0, 1, 0, 0])) = some code ∧ Run X (evT X) 16 0 code (spFr c c2 l i) [] ⟨.normal, spFr c c2 l (i + 1), []⟩ := by
  refine ⟨_, rfl, ?_⟩
  have hlt := at_lt hp
  have hiI : (i : Int) < (l.length : Int) := by omega
  have w1 : IntKind.i64.wrap ((i : Int) + 1) = ((i + 1 : Nat) : Int) := by rw [wrap_i64 (by omega) (by omega)]; omega
  have hrow : (l.map Pm.pay)[i]? = some p.pay := by rw [List.getElem?_map, hp]; rfl
  have hL : (l.map Pm.pay).length = l.length := List.length_map _
  have hE := fun xo yo => eqPm p xo yo []
  unfold spFr
  generalize l.map Pm.pay = L at *
  simp only [Pm.pay] at hrow hE
  refine ⟨0, ?_⟩
  simp (maxSteps := 2000000) -implicitDefEqProofs [-getElem?_pos, List.getElem?_cons_zero, List.getElem?_cons_succ, go_sem, eqV, plen, loadV, storeV, hlt, hiI, w1, hL, hrow, hE, mkPm, -eqV, retagL, retag, retagP, flatCells, splice, scalars, scalar]

set_option maxRecDepth 100000 in
set_option maxHeartbeats 4000000 in
theorem sp_code (hl : l.length ≤ 100000000) : ∃ code, Try.f16.body = some code ∧
    Tells (Rets fun fr H => getF fr 4 = .bool true) X (evT X) 16 0 code [(0, .ro c (.pr 15 (l.map Pm.pay)) 1), (1, .ro c2 (.pr 15 (l.map Pm.pay)) 2)] [] := by
  refine ⟨_, rfl, ?_⟩
  have hL : (l.map Pm.pay).length = l.length := List.length_map _
  apply Tells.seq (fr' := [(0, .ro c (.pr 15 (l.map Pm.pay)) 1), (1, .ro c2 (.pr 15 (l.map Pm.pay)) 2)]) (H' := [])
  · generalize l.map Pm.pay = L at *
    (refine ⟨0, ?_⟩; simp (maxSteps := 2000000) -implicitDefEqProofs [-getElem?_pos, List.getElem?_cons_zero, List.getElem?_cons_succ, go_sem, eqV, plen, loadV, storeV])
  apply Tells.assoc
  apply Tells.seq (fr' := [(0, .ro c (.pr 15 (l.map Pm.pay)) 1), (1, .ro c2 (.pr 15 (l.map Pm.pay)) 2), (10, .bool false)]) (H' := [])
  · generalize l.map Pm.pay = L at *
    (refine ⟨0, ?_⟩; simp (maxSteps := 2000000) -implicitDefEqProofs [-getElem?_pos, List.getElem?_cons_zero, List.getElem?_cons_succ, go_sem, eqV, plen, loadV, storeV])
  apply Tells.seq (fr' := [(0, .ro c (.pr 15 (l.map Pm.pay)) 1), (1, .ro c2 (.pr 15 (l.map Pm.pay)) 2), (10, .bool false)]) (H' := [])
  · exact condF (by simp [evalO, getF]) ⟨0, rfl⟩
  apply Tells.assoc
  apply Tells.seq (fr' := spFr c c2 l 0) (H' := [])
  · unfold spFr
    generalize l.map Pm.pay = L at *
    (refine ⟨0, ?_⟩; simp (maxSteps := 2000000) -implicitDefEqProofs [-getElem?_pos, List.getElem?_cons_zero, List.getElem?_cons_succ, go_sem, eqV, plen, loadV, storeV])
  apply Tells.blockThen (P := fun fr H => fr = spFr c c2 l l.length ++ [(14, .bool false)] ∧ H = [])
  · refine Tells.loopP (fun k fr H => ∃ i, k = l.length - i ∧ i ≤ l.length ∧ fr = spFr c c2 l i ∧ H = []) ?_ (k := l.length) ⟨0, rfl, by omega, rfl, rfl⟩
    rintro k fr H ⟨i, rfl, hi, rfl, rfl⟩
    by_cases hin : i = l.length
    · subst hin
      refine Tells.of (o := ⟨.exit 0, spFr c c2 l l.length ++ [(14, .bool false)], []⟩) ⟨0, ?_⟩ (.inr ⟨by simp, .inl ⟨rfl, rfl, rfl⟩⟩)
      unfold spFr
      generalize l.map Pm.pay = L at *
      simp (maxSteps := 2000000) -implicitDefEqProofs [-getElem?_pos, List.getElem?_cons_zero, List.getElem?_cons_succ, go_sem, eqV, plen, loadV, storeV, hL]
    · obtain ⟨p, hp⟩ : ∃ p, l[i]? = some p := ⟨_, List.getElem?_eq_getElem (by omega)⟩
      exact Tells.of (piece (sp_round c c2 l i p hl hp) _ rfl) (.inl ⟨rfl, l.length - (i + 1), by omega, i + 1, rfl, by omega, rfl, rfl⟩)
  rintro fr H ⟨rfl, rfl⟩
  refine Tells.of (o := ⟨.ret, [(4, .bool true)], []⟩) ⟨0, ?_⟩ ⟨rfl, rfl⟩
  unfold spFr
  generalize l.map Pm.pay = L at *
  simp (maxSteps := 2000000) -implicitDefEqProofs [-getElem?_pos, List.getElem?_cons_zero, List.getElem?_cons_succ, go_sem, eqV, plen, loadV, storeV]

end

theorem emPp : emptyRow X 34 = .pr 15 [] := by kernel_rfl
theorem undPs : und X 35 = .slice 34 := by kernel_rfl

theorem same_ev {H : AM.Heap} {a a2 : AV} {l : List Pm} (h : RoRow H a 15 (l.map Pm.pay)) (h2 : RoRow H a2 15 (l.map Pm.pay)) (hl : l.length ≤ 100000000) :
    evT X 16 [a, a2] H = some (.bool true, H) := by
  obtain ⟨c2, p2, x2, hp2, _, hx2⟩ := args_row (C := X) (f := 16) (i := 1) rfl h2 (args_nil 2)
  obtain ⟨c, p, x, hp, _, hx⟩ := args_row (C := X) (f := 16) (i := 0) rfl h hx2
  obtain ⟨code, hcode, o, ⟨he, h4⟩, hr⟩ := sp_code c c2 l hl
  have hid := (pm_tags l).1
  have hco : coerce X [.ro c p 1, .ro c2 p2 2] (paramsOf X 16) = [.ro c (.pr 15 (l.map Pm.pay)) 1, .ro c2 (.pr 15 (l.map Pm.pay)) 2] := by
    rw [par16]
    rcases hp with rfl | ⟨rfl, e⟩ <;> rcases hp2 with rfl | ⟨rfl, e2⟩
    · rfl
    · simp [coerce, undPs, emPp, e2]
    · simp [coerce, undPs, emPp, e]
    · simp [coerce, undPs, emPp, e]
  have hii : idsL [AV.ro c p 1, AV.ro c2 p2 2] = [] := by
    rcases hp with rfl | ⟨rfl, e⟩ <;> rcases hp2 with rfl | ⟨rfl, e2⟩ <;> simp [idsL, ids, hid]
  exact evT_eq (Ev1.toldP (l := [.bool true]) (evT_below X) Try.func16 hcode hx hii (by simp [gtag]) rfl rfl rfl ⟨o, ⟨he, by show some [getF o.fr 4] = _; rw [h4]⟩, by rw [hco]; exact hr⟩)

end Go.Proofs.Ytbmddnokokoofaa

/- Arguments of laws: values, types, parameters; rows of them. -/
namespace Go.Proofs.Ytbmddnokokoofaa
open Go.AM
set_option linter.unusedVariables false

/-- a value as it may come -/
def Va.okA (v : Va) : Prop := v.b < 18446744073709551616 ∧ -9223372036854775808 ≤ v.i ∧ v.i < 9223372036854775808

theorem row_pm {r : List AV} {cs : List Value} (h : Cells [.i .u8, .b, .b, .i .i64, .i .i64, .i .u64, .s, .b, .i .i64, .i .i64, .i .i64, .i .i64, .i .i64, .i .i64, .i .i64] r cs) : ∃ p : Pm, AV.pc r = p.pay ∧ p.ok ∧ AV.str p.v.t ∈ r := by
  rcases h with _ | ⟨h0, h⟩
  rcases h with _ | ⟨h1, h⟩
  rcases h with _ | ⟨h2, h⟩
  rcases h with _ | ⟨h3, h⟩
  rcases h with _ | ⟨h4, h⟩
  rcases h with _ | ⟨h5, h⟩
  rcases h with _ | ⟨h6, h⟩
  rcases h with _ | ⟨h7, h⟩
  rcases h with _ | ⟨h8, h⟩
  rcases h with _ | ⟨h9, h⟩
  rcases h with _ | ⟨h10, h⟩
  rcases h with _ | ⟨h11, h⟩
  rcases h with _ | ⟨h12, h⟩
  rcases h with _ | ⟨h13, h⟩
  rcases h with _ | ⟨h14, h⟩
  cases h
  obtain ⟨x0, rfl, _, w0⟩ := h0
  obtain ⟨x0, rfl, b0⟩ := AM.nat_wf rfl w0
  obtain ⟨x1, rfl, _⟩ := h1
  obtain ⟨x2, rfl, _⟩ := h2
  obtain ⟨x3, rfl, _, w3⟩ := h3
  have w3 := AM.i64_wf w3
  obtain ⟨x4, rfl, _, w4⟩ := h4
  have w4 := AM.i64_wf w4
  obtain ⟨x5, rfl, _, w5⟩ := h5
  obtain ⟨x5, rfl, b5⟩ := AM.nat_wf rfl w5
  obtain ⟨x6, rfl, _, _⟩ := h6
  obtain ⟨x7, rfl, _⟩ := h7
  obtain ⟨x8, rfl, _, w8⟩ := h8
  have w8 := AM.i64_wf w8
  obtain ⟨x9, rfl, _, w9⟩ := h9
  have w9 := AM.i64_wf w9
  obtain ⟨x10, rfl, _, w10⟩ := h10
  have w10 := AM.i64_wf w10
  obtain ⟨x11, rfl, _, w11⟩ := h11
  have w11 := AM.i64_wf w11
  obtain ⟨x12, rfl, _, w12⟩ := h12
  have w12 := AM.i64_wf w12
  obtain ⟨x13, rfl, _, w13⟩ := h13
  have w13 := AM.i64_wf w13
  obtain ⟨x14, rfl, _, w14⟩ := h14
  have w14 := AM.i64_wf w14
  exact ⟨⟨⟨x0, x1⟩, x2, ⟨x3, x4, x5, x6, ⟨x7, x8, x9, x10, x11, x12, x13, x14⟩⟩⟩, rfl, ⟨b0, b5, w4.1, Int.lt_of_le_of_lt w4.2 (by decide)⟩, by simp⟩

theorem lv_pm : leaves Try.prog 6 34 = some [.i .u8, .b, .b, .i .i64, .i .i64, .i .u64, .s, .b, .i .i64, .i .i64, .i .i64, .i .i64, .i .i64, .i .i64, .i .i64] := by kernel_rfl

/-- a row of them -/
theorem arg_pms {H : Type} {enc : TypeId × Value → H} {W : World} {base : Nat} {v : Value} {d : DataW H} {ps : List MemPlace} (hval : Value.okWide Try.prog W .any base 35 v) (hd : DataW.Trod enc Try.prog W 0 (fun _ => true) true 35 v d ps) :
    ∃ (c : Nat) (l : List Pm), (∀ p ∈ l, p.ok ∧ AM.StrIn d p.v.t) ∧ (c = 0 → l = []) ∧ l.length ≤ maxLen ∧ AM.VRel (AM.start W) (AM.T0 W.heap.size) (.ro c (.pr 15 (l.map Pm.pay)) 1) v := by
  obtain ⟨c, rows, h1, h2, h3, h4⟩ := AM.arg_rows (show Try.prog.underlying 35 = some (.slice 34) by kernel_rfl) lv_pm (by kernel_rfl) (by simp) hval hd
  obtain ⟨l, q1, q2, q3⟩ := AM.rows_as AV.pc Pm.pay (Q := fun p => p.ok ∧ AM.StrIn d p.v.t) (rows := rows) (fun r hr => by
    obtain ⟨⟨cs, h⟩, hs⟩ := h1 r hr
    obtain ⟨p, e, h5⟩ := row_pm h
    exact ⟨p, e, h5.1, hs _ h5.2⟩)
  refine ⟨c, l, q3, fun h => ?_, by rw [q2]; exact h3, ?_⟩
  · have := h2 h
    subst this
    exact List.eq_nil_of_length_eq_zero q2
  · rw [← q1]
    exact h4

theorem row_va {r : List AV} {cs : List Value} (h : Cells [.i .i64, .i .i64, .i .u64, .s, .b, .i .i64, .i .i64, .i .i64, .i .i64, .i .i64, .i .i64, .i .i64] r cs) : ∃ p : Va, AV.pc r = p.pay ∧ p.okA ∧ AV.str p.t ∈ r := by
  rcases h with _ | ⟨h0, h⟩
  rcases h with _ | ⟨h1, h⟩
  rcases h with _ | ⟨h2, h⟩
  rcases h with _ | ⟨h3, h⟩
  rcases h with _ | ⟨h4, h⟩
  rcases h with _ | ⟨h5, h⟩
  rcases h with _ | ⟨h6, h⟩
  rcases h with _ | ⟨h7, h⟩
  rcases h with _ | ⟨h8, h⟩
  rcases h with _ | ⟨h9, h⟩
  rcases h with _ | ⟨h10, h⟩
  rcases h with _ | ⟨h11, h⟩
  cases h
  obtain ⟨x0, rfl, _, w0⟩ := h0
  have w0 := AM.i64_wf w0
  obtain ⟨x1, rfl, _, w1⟩ := h1
  have w1 := AM.i64_wf w1
  obtain ⟨x2, rfl, _, w2⟩ := h2
  obtain ⟨x2, rfl, b2⟩ := AM.nat_wf rfl w2
  obtain ⟨x3, rfl, _, _⟩ := h3
  obtain ⟨x4, rfl, _⟩ := h4
  obtain ⟨x5, rfl, _, w5⟩ := h5
  have w5 := AM.i64_wf w5
  obtain ⟨x6, rfl, _, w6⟩ := h6
  have w6 := AM.i64_wf w6
  obtain ⟨x7, rfl, _, w7⟩ := h7
  have w7 := AM.i64_wf w7
  obtain ⟨x8, rfl, _, w8⟩ := h8
  have w8 := AM.i64_wf w8
  obtain ⟨x9, rfl, _, w9⟩ := h9
  have w9 := AM.i64_wf w9
  obtain ⟨x10, rfl, _, w10⟩ := h10
  have w10 := AM.i64_wf w10
  obtain ⟨x11, rfl, _, w11⟩ := h11
  have w11 := AM.i64_wf w11
  exact ⟨⟨x0, x1, x2, x3, ⟨x4, x5, x6, x7, x8, x9, x10, x11⟩⟩, rfl, ⟨b2, w1.1, Int.lt_of_le_of_lt w1.2 (by decide)⟩, by simp⟩

theorem lv_va : leaves Try.prog 6 32 = some [.i .i64, .i .i64, .i .u64, .s, .b, .i .i64, .i .i64, .i .i64, .i .i64, .i .i64, .i .i64, .i .i64] := by kernel_rfl

theorem row_ty {r : List AV} {cs : List Value} (h : Cells [.i .u8, .b] r cs) : ∃ p : Ty, AV.pc r = p.pay ∧ p.t < 256 := by
  rcases h with _ | ⟨h0, h⟩
  rcases h with _ | ⟨h1, h⟩
  cases h
  obtain ⟨x0, rfl, _, w0⟩ := h0
  obtain ⟨x0, rfl, b0⟩ := AM.nat_wf rfl w0
  obtain ⟨x1, rfl, _⟩ := h1
  exact ⟨⟨x0, x1⟩, rfl, b0⟩

theorem lv_ty : leaves Try.prog 6 27 = some [.i .u8, .b] := by kernel_rfl

/-- a row of them -/
theorem arg_tys {H : Type} {enc : TypeId × Value → H} {W : World} {base : Nat} {v : Value} {d : DataW H} {ps : List MemPlace} (hval : Value.okWide Try.prog W .any base 43 v) (hd : DataW.Trod enc Try.prog W 0 (fun _ => true) true 43 v d ps) :
    ∃ (c : Nat) (l : List Ty), (∀ p ∈ l, p.t < 256) ∧ (c = 0 → l = []) ∧ l.length ≤ maxLen ∧ AM.VRel (AM.start W) (AM.T0 W.heap.size) (.ro c (.pr 2 (l.map Ty.pay)) 1) v := by
  obtain ⟨c, rows, h1, h2, h3, h4⟩ := AM.arg_rows (show Try.prog.underlying 43 = some (.slice 27) by kernel_rfl) lv_ty (by kernel_rfl) (by simp) hval hd
  obtain ⟨l, q1, q2, q3⟩ := AM.rows_as AV.pc Ty.pay (Q := fun p => p.t < 256) (rows := rows) (fun r hr => by
    obtain ⟨⟨cs, h⟩, hs⟩ := h1 r hr
    obtain ⟨p, e, h5⟩ := row_ty h
    exact ⟨p, e, h5⟩)
  refine ⟨c, l, q3, fun h => ?_, by rw [q2]; exact h3, ?_⟩
  · have := h2 h
    subst this
    exact List.eq_nil_of_length_eq_zero q2
  · rw [← q1]
    exact h4

end Go.Proofs.Ytbmddnokokoofaa

/- Walks: the law ParamReads: whole. -/
namespace Go.Proofs.Ytbmddnokokoofaa
open Go.AM
set_option linter.unusedSimpArgs false
set_option linter.unusedVariables false

theorem prF_len (b : List UInt8) (g : List Bool) (ts : List Ty) : ∀ (k i : Nat) (a : List Pm) (r : List UInt8), (prF b g ts k i a r).1.length ≤ a.length + k
  | 0, i, a, r => Nat.le_refl _
  | k + 1, i, a, r => by
    rw [prF]
    split
    · have := prF_len b g ts k (i + 1) (a ++ [⟨tyI ts i, lgB g i, {}⟩]) r
      rw [List.length_append] at this
      simp only [List.length_cons, List.length_nil] at this
      omega
    · split
      · simp
      · split
        · simp
        · have := prF_len b g ts k (i + 1) (a ++ [⟨tyI ts i, false, (rdV r (tyI ts i)).1⟩]) (r.drop (rdV r (tyI ts i)).2.1)
          rw [List.length_append] at this
          simp only [List.length_cons, List.length_nil] at this
          omega
theorem prZ_len (v : Nat) (x : List Pm × List UInt8 × Int) : (prZ v x).1.length ≤ x.1.length := by
  unfold prZ
  repeat' split
  all_goals simp
theorem rdPar_len (b : List UInt8) (n : Int) (ts : List Ty) (g : List Bool) : (rdPar b n ts g).1.length ≤ 65535 := by
  unfold rdPar
  split
  · simp
  · rename_i h1
    have hn : n.toNat ≤ 65535 := by omega
    split
    · split <;> simp
    · split
      · simp
      · split
        · simp
        · split
          · simp
          · split
            · split
              · simp
              · split
                · simp
                · exact Nat.le_trans (prZ_len _ _) (Nat.le_trans (prF_len _ _ _ _ _ _ _) (by simpa using hn))
            · split
              · split
                · simp
                · exact Nat.le_trans (prZ_len _ _) (Nat.le_trans (prF_len _ _ _ _ _ _ _) (by simpa using hn))
              · simp

/-- a row of truths -/
theorem arg_bls {H : Type} {enc : TypeId × Value → H} {W : World} {base : Nat} {v : Value} {d : DataW H} {ps : List MemPlace} (hval : Value.okWide Try.prog W .any base 44 v) (hd : DataW.Trod enc Try.prog W 0 (fun _ => true) true 44 v d ps) :
    ∃ (c : Nat) (l : List Bool), (c = 0 → l = []) ∧ AM.VRel (AM.start W) (AM.T0 W.heap.size) (.ro c (.pc (l.map .bool)) 1) v := by
  obtain ⟨c, zs, h1, h2, h3, _, h4⟩ := AM.arg_leafs (k := .b) (show Try.prog.underlying 44 = some (.slice 4) by kernel_rfl) (by kernel_rfl) (by kernel_rfl) hval hd
  obtain ⟨l, q1, q2, _⟩ := AM.rows_as id AV.bool (Q := fun _ => True) (rows := zs) (fun a ha => by
    obtain ⟨u, b, e, _⟩ := h1 a ha
    exact ⟨b, e, trivial⟩)
  rw [List.map_id] at q1
  refine ⟨c, l, fun h => ?_, ?_⟩
  · have := h2 h
    subst this
    exact List.eq_nil_of_length_eq_zero q2
  · rw [← q1]
    exact h4

section
variable (c : Nat) (b : List UInt8) (n : Int) (ct : Nat) (ts : List Ty) (cg : Nat) (g : List Bool)

set_option maxRecDepth 100000 in
set_option maxHeartbeats 4000000 in
theorem reads_code (hc : c = 0 → b = []) (hct : ct = 0 → ts = []) (hcg : cg = 0 → g = []) (htt : ∀ t ∈ ts, t.t < 256) : ∃ code, Try.f5.body = some code ∧
    Tells (Rets fun fr H => getF fr 8 = .bool true) X (evT X) 5 0 code [(0, .ro c (.pb b) 1), (1, .int .i64 n), (2, .ro ct (.pr 2 (ts.map Ty.pay)) 3), (3, .ro cg (.pc (g.map .bool)) 4)] [] := by
  refine ⟨_, rfl, ?_⟩
  have hL := fun H => lives_ev H
  have hro : ∀ H, Byt H (.ro c (.pb b) 1) b := fun H => Byt.ro (.inl rfl) hc
  have htl : (ts.map Ty.pay).length = ts.length := List.length_map _
  have hgl : (g.map AV.bool).length = g.length := List.length_map _
  obtain ⟨TS, hTS⟩ : ∃ TS : List AV, ts.map Ty.pay = TS := ⟨_, rfl⟩
  obtain ⟨G, hG⟩ : ∃ G : List AV, g.map AV.bool = G := ⟨_, rfl⟩
  rw [hTS] at htl
  rw [hG] at hgl
  rw [hTS, hG]
  apply Tells.seq (fr' := [(0, .ro c (.pb b) 1), (1, .int .i64 n), (2, .ro ct (.pr 2 TS) 3), (3, .ro cg (.pc G) 4)]) (H' := [])
  · (refine ⟨0, ?_⟩; simp (maxSteps := 2000000) -implicitDefEqProofs [-getElem?_pos, List.getElem?_cons_zero, List.getElem?_cons_succ, go_sem, eqV, plen, loadV, storeV])
  apply Tells.assoc
  apply Tells.seq (fr' := [(0, .ro c (.pb b) 1), (1, .int .i64 n), (2, .ro ct (.pr 2 TS) 3), (3, .ro cg (.pc G) 4), (17, .bool false)]) (H' := [])
  · (refine ⟨0, ?_⟩; simp (maxSteps := 2000000) -implicitDefEqProofs [-getElem?_pos, List.getElem?_cons_zero, List.getElem?_cons_succ, go_sem, eqV, plen, loadV, storeV, hL, unV])
  apply Tells.seq (fr' := [(0, .ro c (.pb b) 1), (1, .int .i64 n), (2, .ro ct (.pr 2 TS) 3), (3, .ro cg (.pc G) 4), (17, .bool false)]) (H' := [])
  · exact condF (by simp [evalO, getF]) ⟨0, rfl⟩
  apply Tells.assoc
  by_cases hb : (3000 : Int) < (b.length : Int)
  · refine Tells.of (o := ⟨.ret, [(8, .bool true)], []⟩) ⟨0, ?_⟩ ⟨rfl, rfl⟩
    simp (maxSteps := 2000000) -implicitDefEqProofs [-getElem?_pos, List.getElem?_cons_zero, List.getElem?_cons_succ, go_sem, eqV, plen, loadV, storeV, hb]
  by_cases ht : (60 : Int) < (ts.length : Int)
  · refine Tells.of (o := ⟨.ret, [(8, .bool true)], []⟩) ⟨0, ?_⟩ ⟨rfl, rfl⟩
    simp (maxSteps := 2000000) -implicitDefEqProofs [-getElem?_pos, List.getElem?_cons_zero, List.getElem?_cons_succ, go_sem, eqV, plen, loadV, storeV, hb, ht, htl]
  by_cases hg : (60 : Int) < (g.length : Int)
  · refine Tells.of (o := ⟨.ret, [(8, .bool true)], []⟩) ⟨0, ?_⟩ ⟨rfl, rfl⟩
    simp (maxSteps := 2000000) -implicitDefEqProofs [-getElem?_pos, List.getElem?_cons_zero, List.getElem?_cons_succ, go_sem, eqV, plen, loadV, storeV, hb, ht, htl, hg, hgl]
  by_cases hn : 500 < n ∧ n ≤ 65535
  · obtain ⟨hn1, hn2⟩ := hn
    refine Tells.of (o := ⟨.ret, [(8, .bool true)], []⟩) ⟨0, ?_⟩ ⟨rfl, rfl⟩
    simp (maxSteps := 2000000) -implicitDefEqProofs [-getElem?_pos, List.getElem?_cons_zero, List.getElem?_cons_succ, go_sem, eqV, plen, loadV, storeV, hb, ht, htl, hg, hgl, hn1, hn2]
  have hbl : b.length ≤ 3000 := by omega
  apply Tells.seq (fr' := [(0, .ro c (.pb b) 1), (1, .int .i64 n), (2, .ro ct (.pr 2 TS) 3), (3, .ro cg (.pc G) 4), (38, .bool false)]) (H' := [])
  · by_cases hn1 : 500 < n
    · have hn2 : ¬ n ≤ 65535 := fun h => hn ⟨hn1, h⟩
      (refine ⟨0, ?_⟩; simp (maxSteps := 2000000) -implicitDefEqProofs [-getElem?_pos, List.getElem?_cons_zero, List.getElem?_cons_succ, go_sem, eqV, plen, loadV, storeV, hb, ht, htl, hg, hgl, hn1, hn2])
    · (refine ⟨0, ?_⟩; simp (maxSteps := 2000000) -implicitDefEqProofs [-getElem?_pos, List.getElem?_cons_zero, List.getElem?_cons_succ, go_sem, eqV, plen, loadV, storeV, hb, ht, htl, hg, hgl, hn1])
  apply Tells.seq (fr' := [(0, .ro c (.pb b) 1), (1, .int .i64 n), (2, .ro ct (.pr 2 TS) 3), (3, .ro cg (.pc G) 4), (38, .bool false)]) (H' := [])
  · exact condF (by simp [evalO, getF]) ⟨0, rfl⟩
  obtain ⟨obo, hO, hOw⟩ := own_ev (H := []) (hro _) (by omega)
  apply Tells.seq (fr' := [(0, .ro c (.pb b) 1), (1, .int .i64 n), (2, .ro ct (.pr 2 TS) 3), (3, .ro cg (.pc G) 4), (9, .sl 0 0 b.length 0)]) (H' := [some obo])
  · simp only [List.cons_append, List.nil_append, List.length_cons, List.length_nil] at hOw
    (refine ⟨0, ?_⟩; simp (maxSteps := 2000000) -implicitDefEqProofs [-getElem?_pos, List.getElem?_cons_zero, List.getElem?_cons_succ, go_sem, eqV, plen, loadV, storeV, hOw, assignV])
  obtain ⟨ob1, hw1, hA1⟩ := rdp_ev (H := [some obo]) (a := .sl 0 0 b.length 0) (b := b) (n := n) (ct := ct) (tt := 3) (cg := cg) (tg := 4) (ts := ts) (g := g) (OwnB.byt rfl hO) hct hcg (by omega) htt
  rw [hTS, hG] at hA1
  apply Tells.seq (fr' := [(0, .ro c (.pb b) 1), (1, .int .i64 n), (2, .ro ct (.pr 2 TS) 3), (3, .ro cg (.pc G) 4), (9, .sl 0 0 b.length 0), (10, .sl 1 0 (rdPar b n ts g).1.length 0), (11, .bool (rdPar b n ts g).2.1), (12, .int .i64 (rdPar b n ts g).2.2)]) (H' := [some obo, some ob1])
  · simp only [List.cons_append, List.nil_append, List.length_cons, List.length_nil] at hA1
    generalize rdPar b n ts g = r at *
    (refine ⟨0, ?_⟩; simp (maxSteps := 2000000) -implicitDefEqProofs [-getElem?_pos, List.getElem?_cons_zero, List.getElem?_cons_succ, go_sem, eqV, plen, loadV, storeV, hA1, assignV])
  obtain ⟨ob2, hw2, hA2⟩ := rrp_ev (H := [some obo, some ob1]) (a := .ro c (.pb b) 1) (b := b) (n := n) (ct := ct) (tt := 3) (cg := cg) (tg := 4) (ts := ts) (g := g) (hro _) (by omega) htt
  rw [hTS, hG] at hA2
  apply Tells.seq (fr' := [(0, .ro c (.pb b) 1), (9, .sl 0 0 b.length 0), (10, .sl 1 0 (rdPar b n ts g).1.length 0), (11, .bool (rdPar b n ts g).2.1), (12, .int .i64 (rdPar b n ts g).2.2), (13, .sl 2 0 (rdPar b n ts g).1.length 0), (14, .bool (rdPar b n ts g).2.1), (15, .int .i64 (rdPar b n ts g).2.2)]) (H' := [some obo, some ob1, some ob2])
  · simp only [List.cons_append, List.nil_append, List.length_cons, List.length_nil] at hA2
    generalize rdPar b n ts g = r at *
    (refine ⟨0, ?_⟩; simp (maxSteps := 2000000) -implicitDefEqProofs [-getElem?_pos, List.getElem?_cons_zero, List.getElem?_cons_succ, go_sem, eqV, plen, loadV, storeV, hA2, assignV])
  have hpl : (rdPar b n ts g).1.length ≤ 100000000 := Nat.le_trans (rdPar_len b n ts g) (by decide)
  have hSP := same_ev (H := [some obo, some ob1, some ob2]) (a := .sl 1 0 (rdPar b n ts g).1.length 0) (a2 := .sl 2 0 (rdPar b n ts g).1.length 0) (l := (rdPar b n ts g).1)
    (by have := RoRow.whole (H := [some obo, some ob1, some ob2]) (o := 1) rfl hw1; rwa [List.length_map] at this) (by have := RoRow.whole (H := [some obo, some ob1, some ob2]) (o := 2) rfl hw2; rwa [List.length_map] at this) hpl
  have hK := kept_ev (H := [some obo, some ob1, some ob2]) (o := 0) (t := 1) rfl hO hc (by omega)
  refine Tells.of (o := ⟨.ret, [(8, .bool true)], [some obo, some ob1, some ob2]⟩) ⟨0, ?_⟩ ⟨rfl, rfl⟩
  generalize rdPar b n ts g = r at *
  simp (maxSteps := 2000000) -implicitDefEqProofs [-getElem?_pos, List.getElem?_cons_zero, List.getElem?_cons_succ, go_sem, eqV, plen, loadV, storeV, hSP, hK]

end

end Go.Proofs.Ytbmddnokokoofaa
