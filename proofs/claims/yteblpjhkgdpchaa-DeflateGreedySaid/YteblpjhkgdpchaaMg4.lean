/- EB to DO: texts of this claim, one behind the other; what each shows stands at its head. -/
import Derived.Test.YteblpjhkgdpchaaMg3
/- Events: the fixed lengths, their codes; plain facts of lengths and distances. -/
namespace Go.Proofs.Yteblpjhkgdpchaa
open Go.AM
set_option linter.unusedSimpArgs false
set_option linter.unusedVariables false

def flL : List Int := List.replicate 144 8 ++ List.replicate 112 9 ++ List.replicate 24 7 ++ List.replicate 8 8
def flD : List Int := List.replicate 32 5
def flO (l : List Int) : AM.Obj := ⟨.pi .i64 l, 0, .none, 1, true, false, 0⟩
def flRow : Row1 := ⟨30, [], .tup [.sl 0 0 288 0, .sl 1 0 32 0], [some (flO flL), some (flO flD)]⟩
set_option maxRecDepth 100000 in
theorem flRow_ok : RowsOk X (flRow :: []) := RowsOk.cons (rowT_below RowsOk.nil) RowsOk.nil (n := 400) (by kernel_rfl)

theorem E_fl (H : AM.Heap) : evT X 30 [] H = some (.tup [.sl H.length 0 288 0, .sl (H.length + 1) 0 32 0], H ++ [some (flO flL), some (flO flD)]) := by
  have := evT_eq (Ev1.frame (flRow_ok flRow (List.mem_singleton.2 rfl)).1 rfl H)
  simpa [flRow, shiftV, shiftH, ren, renObj, shiftN, flO, renL, Nat.add_comm] using this

/-- the codes of lengths that make a code -/
theorem E_codes {H : AM.Heap} {a : AV} {l : List Int} (h : payOf H a = some (.pi .i64 l)) (he : (checkR l).2 = 0) : evT X 31 [a] H = some (.tup [.sl H.length 0 l.length 0, .int .i64 0], H ++ [rowI l.length (codesR l)]) := by
  obtain ⟨c, x, hx⟩ := args_pay (C := X) (f := 31) (i := 0) rfl h (args_nil 1)
  obtain ⟨code, hb, hr⟩ := codes_code c l he
  have := Ev1.fresh (H := H) (args := [a]) (l := [.sl 3 0 l.length 0, .int .i64 0]) (o := 3) (g := 0) T2_below Try.func31 hb hx rfl (by simp [gtag]) hr (.inr rfl) rfl rfl rfl rfl rfl rfl rfl
  have := evT_eq this
  simpa [resultV, noTups, ren, renL, rowI, AM.fresh] using this

def lcL : List Int := codesR flL
def dcL : List Int := codesR flD
set_option maxRecDepth 100000 in
theorem flL_ok : (checkR flL).2 = 0 := by kernel_rfl
set_option maxRecDepth 100000 in
theorem flD_ok : (checkR flD).2 = 0 := by kernel_rfl
theorem flL_len : flL.length = 288 := by decide +kernel
theorem flD_len : flD.length = 32 := by decide +kernel
theorem codesR_len (l : List Int) : (codesR l).length = l.length := codesL_len _ l

theorem lenOf_facts : ∀ n, n < 259 → 3 ≤ n → (lenOf n).1 ≤ 285 ∧ 257 ≤ (lenOf n).1 ∧ (lenOf n).2.1 ≤ n ∧ n < (lenOf n).2.1 + 2 ^ (lenOf n).2.2 ∧ (lenOf n).2.2 ≤ 5 := by decide +kernel

theorem gF_facts {per n : Nat} : ∀ {f s base bits j : Nat}, gOk per n f s base bits j = true → base ≤ n → base ≤ (gF per n f s base bits j).2.1 ∧ (gF per n f s base bits j).2.1 ≤ n ∧ n < (gF per n f s base bits j).2.1 + 2 ^ (gF per n f s base bits j).2.2
  | 0, _, _, _, _, h, _ => by cases h
  | f + 1, s, base, bits, j, h, hb => by
    unfold gOk at h
    unfold gF
    split
    · rename_i hj
      rw [if_pos hj] at h
      exact gF_facts h hb
    · rename_i hj
      rw [if_neg hj] at h
      split
      · rename_i hn
        exact ⟨Nat.le_refl _, hb, hn⟩
      · rename_i hn
        rw [if_neg hn] at h
        have := gF_facts h (by omega)
        exact ⟨Nat.le_trans (Nat.le_add_right _ _) this.1, this.2⟩

theorem gF_shape {n : Nat} : ∀ {f bits j : Nat}, j ≤ 2 → gOk 2 n f (2 * bits + 2 + j) ((2 + j) * 2 ^ bits + 1) bits j = true → ∃ b j', j' < 2 ∧ gF 2 n f (2 * bits + 2 + j) ((2 + j) * 2 ^ bits + 1) bits j = (2 * b + 2 + j', (2 + j') * 2 ^ b + 1, b)
  | 0, _, _, _, h => by cases h
  | f + 1, bits, j, hj, h => by
    unfold gOk at h
    unfold gF
    by_cases h2 : j = 2
    · subst h2
      rw [if_pos rfl] at h ⊢
      have e1 : 2 * bits + 2 + 2 = 2 * (bits + 1) + 2 + 0 := by omega
      have e2 : (2 + 2) * 2 ^ bits + 1 = (2 + 0) * 2 ^ (bits + 1) + 1 := by rw [Nat.pow_succ]; omega
      rw [e1, e2] at h ⊢
      exact gF_shape (by omega) h
    · rw [if_neg h2] at h ⊢
      split
      · exact ⟨bits, j, by omega, rfl⟩
      · rename_i hn
        rw [if_neg hn] at h
        have e1 : 2 * bits + 2 + j + 1 = 2 * bits + 2 + (j + 1) := by omega
        have e2 : (2 + j) * 2 ^ bits + 1 + 2 ^ bits = (2 + (j + 1)) * 2 ^ bits + 1 := by
          rw [show 2 + (j + 1) = (2 + j) + 1 by omega, Nat.succ_mul]
          omega
        rw [e1, e2] at h ⊢
        exact gF_shape (by omega) h

theorem disOf_facts {n : Nat} (h1 : 1 ≤ n) (h : n ≤ 32768) : (disOf n).1 ≤ 29 ∧ (disOf n).2.1 ≤ n ∧ n < (disOf n).2.1 + 2 ^ (disOf n).2.2 ∧ (disOf n).2.2 ≤ 13 := by
  unfold disOf
  by_cases h4 : n ≤ 4
  · rw [if_pos h4]
    simp
    omega
  · rw [if_neg h4]
    obtain ⟨_, a2, a3⟩ := gF_facts (dis_ok h) (by omega)
    obtain ⟨b, j, hj, he⟩ := gF_shape (n := n) (f := 40) (bits := 1) (j := 0) (by omega) (dis_ok h)
    have he' : gF 2 n 40 4 5 1 0 = (2 * b + 2 + j, (2 + j) * 2 ^ b + 1, b) := he
    rw [he'] at a2 a3 ⊢
    simp only at a2 a3 ⊢
    have hb : b ≤ 13 := by
      refine Classical.byContradiction fun hc => ?_
      have hp : 2 ^ 14 ≤ 2 ^ b := Nat.pow_le_pow_right (by omega) (by omega)
      have : 2 * 2 ^ b ≤ (2 + j) * 2 ^ b := Nat.mul_le_mul_right _ (by omega)
      omega
    exact ⟨by omega, a2, a3, hb⟩

end Go.Proofs.Yteblpjhkgdpchaa

/- Walks: Fixed: symbols, fields. -/
namespace Go.Proofs.Yteblpjhkgdpchaa
open Go.AM
set_option linter.unusedSimpArgs false
set_option linter.unusedVariables false

theorem flL_le : ∀ y, y < 288 → 0 ≤ flL.getD y 0 ∧ flL.getD y 0 ≤ 9 := by decide +kernel
theorem flD_le : ∀ y, y < 32 → 0 ≤ flD.getD y 0 ∧ flD.getD y 0 ≤ 9 := by decide +kernel
theorem at_getD {l : List Int} {y : Nat} (h : y < l.length) : l[y]? = some (l.getD y 0) := by
  rw [List.getD_eq_getElem?_getD, List.getElem?_eq_getElem h]; rfl

/-- a symbol written -/
def symW (s : Ws) (cs ls : List Int) (y : Nat) : Ws := codeW s (cs.getD y 0) (ls.getD y 0).toNat
/-- a piece written -/
def pxW (s : Ws) (x : Px) : Ws :=
  if x.len = 0 then symW s lcL flL x.byte.toNat else
    fieldW (symW (fieldW (symW s lcL flL (lenOf x.len.toNat).1) (x.len - ((lenOf x.len.toNat).2.1 : Nat)) (lenOf x.len.toNat).2.2) dcL flD (disOf x.dist.toNat).1) (x.dist - ((disOf x.dist.toNat).2.1 : Nat)) (disOf x.dist.toNat).2.2
def fixW (l : List Px) : Ws := symW (l.foldl pxW (fieldW (fieldW ⟨0, []⟩ 1 1) 1 2)) lcL flL 256
/-- what Fixed tells -/
def fixR (l : List Px) : List UInt8 × Int := if (expF l []).2 ≠ 0 then ([], (expF l []).2) else ((fixW l).o, 0)

/-- the fixed codes, the writer -/
structure FxV (E : AM.Heap) (o6 o7 o8 o10 o12 : Nat) (oa : Option Nat) (s : Ws) : Prop where
  r6 : E[o6]? = some (some (flO flL))
  r7 : E[o7]? = some (some (flO flD))
  r8 : E[o8]? = some (rowI 288 lcL)
  r10 : E[o10]? = some (rowI 32 dcL)
  wr : WrV 0 E o12 oa s
  lt : o6 < o12 ∧ o7 < o12 ∧ o8 < o12 ∧ o10 < o12
  oa : ∀ a, oa = some a → o12 < a
  ok : WsOk s

section
variable {E : AM.Heap} {o6 o7 o8 o10 o12 : Nat} {oa : Option Nat} {s : Ws}

theorem WrV.lt' (h : WrV 0 E o12 oa s) : o12 < E.length := h.lt.1

theorem FxV.step {E' : AM.Heap} {oa' : Option Nat} {s' : Ws} (h : FxV E o6 o7 o8 o10 o12 oa s) (hw : WrV 0 E' o12 oa' s') (hk : Kpw E E' o12 oa oa') (hok : WsOk s') : FxV E' o6 o7 o8 o10 o12 oa' s' := by
  obtain ⟨l6, l7, l8, l10⟩ := h.lt
  have hl := h.wr.lt'
  have keep : ∀ j, j < o12 → E'[j]? = E[j]? := fun j hj => hk.rest j (by omega) (by omega) fun a ha => by have := h.oa a ha; omega
  refine ⟨by rw [keep _ l6]; exact h.r6, by rw [keep _ l7]; exact h.r7, by rw [keep _ l8]; exact h.r8, by rw [keep _ l10]; exact h.r10, hw, h.lt, ?_, hok⟩
  intro a ha
  cases hq : oa with
  | none => have := hk.new a hq ha; omega
  | some z =>
    have := hk.same z hq
    rw [ha] at this
    cases this
    exact h.oa _ hq
theorem FxV.cat (r : AM.Heap) (h : FxV E o6 o7 o8 o10 o12 oa s) : FxV (E ++ r) o6 o7 o8 o10 o12 oa s := by
  obtain ⟨l6, l7, l8, l10⟩ := h.lt
  have hl := h.wr.lt'
  have keep : ∀ j, j < o12 → (E ++ r)[j]? = E[j]? := fun j hj => List.getElem?_append_left (by omega)
  exact ⟨by rw [keep _ l6]; exact h.r6, by rw [keep _ l7]; exact h.r7, by rw [keep _ l8]; exact h.r8, by rw [keep _ l10]; exact h.r10, h.wr.cat, h.lt, h.oa, h.ok⟩

def fxFr (o6 o7 o8 o10 o12 c : Nat) (l : List Px) (i : Nat) : AM.Frame := [(6, .sl o6 0 288 0), (7, .sl o7 0 32 0), (8, .sl o8 0 288 0), (10, .sl o10 0 32 0), (12, .ptr o12 0 0 0), (46, .ro c (.pr 3 (l.map pxR)) 1), (47, .int .i64 (l.length : Nat)), (48, .int .i64 (i : Nat))]
def fxFq (o6 o7 o8 o10 o12 q c : Nat) (l : List Px) (i : Nat) : AM.Frame := [(6, .sl o6 0 288 0), (7, .sl o7 0 32 0), (8, .sl o8 0 288 0), (10, .sl o10 0 32 0), (12, .ptr o12 0 0 0), (14, .ptr q 0 0 0), (46, .ro c (.pr 3 (l.map pxR)) 1), (47, .int .i64 (l.length : Nat)), (48, .int .i64 (i : Nat))]

theorem symW_ok {cs ls : List Int} {y : Nat} (h : WsOk s) : WsOk (symW s cs ls y) ∧ (symW s cs ls y).k = s.k + (ls.getD y 0).toNat := codeW_ok _ h

set_option maxRecDepth 100000 in
/-- a byte's symbol -/
theorem fx_r14 {m i q c : Nat} {x : Px} {l : List Px} {tl : AM.Frame} (h : FxV E o6 o7 o8 o10 o12 oa s) (hl : s.k ≤ 7000000) (hq : E[q]? = some (some (pxO x))) : ∃ E' oa', FxV E' o6 o7 o8 o10 o12 oa' (symW s lcL flL x.byte.toNat) ∧ Kpw E E' o12 oa oa' ∧ ∃ code, ((Try.f22.body).bind (codeAt [1, 1, 1, 1, 1, 1, 1, 1, 0, 1, 0, 0, 1, 1, 0, 0, 1, 0, 1, 0, 0])) = some code ∧ Run X (evT X) 22 m code (fxFq o6 o7 o8 o10 o12 q c l i ++ tl) E ⟨.normal, fxFr o6 o7 o8 o10 o12 c l i, E'⟩ := by
  have hy := x.byte.toNat_lt
  have hy2 : x.byte.toNat < 288 := by omega
  obtain ⟨n0, n9⟩ := flL_le _ hy2
  have hc := at_getD (l := lcL) (y := x.byte.toNat) (by unfold lcL; rw [codesR_len, flL_len]; exact hy2)
  have hf := at_getD (l := flL) (y := x.byte.toNat) (by rw [flL_len]; exact hy2)
  obtain ⟨E', oa', g1, g2, g3⟩ := wcode_ev (x := lcL.getD x.byte.toNat 0) (I := flL.getD x.byte.toNat 0) (n := (flL.getD x.byte.toNat 0).toNat) (by omega) h.wr h.ok (by omega) (by omega)
  have hs := symW_ok (cs := lcL) (ls := flL) (y := x.byte.toNat) h.ok
  refine ⟨E', oa', h.step g2 g3 hs.1, g3, _, rfl, ?_⟩
  have q6 := h.r6; have q8 := h.r8
  have hyI : (x.byte.toNat : Int) < 288 := by omega
  simp only [flO, rowI, pxO, pxR] at q6 q8 hq
  simp only [fxFq, fxFr]
  generalize lcL.getD x.byte.toNat 0 = v1 at *
  generalize flL.getD x.byte.toNat 0 = v2 at *
  generalize l.map pxR = R at *
  generalize l.length = N at *
  generalize lcL = LC at *
  generalize flL = LL at *
  (refine ⟨0, ?_⟩; simp (maxSteps := 2000000) -implicitDefEqProofs [-getElem?_pos, List.getElem?_cons_zero, List.getElem?_cons_succ, go_sem, eqV, plen, loadV, storeV, retag, q6, q8, hq, hyI, hy2, hc, hf, g1])

end

end Go.Proofs.Yteblpjhkgdpchaa

/- Walks: Fixed: copies. -/
namespace Go.Proofs.Yteblpjhkgdpchaa
open Go.AM
set_option linter.unusedSimpArgs false
set_option linter.unusedVariables false

def fxF3 (o6 o7 o8 o10 o12 q u v w c : Nat) (l : List Px) (i : Nat) : AM.Frame := [(6, .sl o6 0 288 0), (7, .sl o7 0 32 0), (8, .sl o8 0 288 0), (10, .sl o10 0 32 0), (12, .ptr o12 0 0 0), (14, .ptr q 0 0 0), (15, .int .i64 (u : Nat)), (16, .int .i64 (v : Nat)), (17, .int .i64 (w : Nat)), (46, .ro c (.pr 3 (l.map pxR)) 1), (47, .int .i64 (l.length : Nat)), (48, .int .i64 (i : Nat))]
def fxF2 (o6 o7 o8 o10 o12 q v w c : Nat) (l : List Px) (i : Nat) : AM.Frame := [(6, .sl o6 0 288 0), (7, .sl o7 0 32 0), (8, .sl o8 0 288 0), (10, .sl o10 0 32 0), (12, .ptr o12 0 0 0), (14, .ptr q 0 0 0), (16, .int .i64 (v : Nat)), (17, .int .i64 (w : Nat)), (46, .ro c (.pr 3 (l.map pxR)) 1), (47, .int .i64 (l.length : Nat)), (48, .int .i64 (i : Nat))]

section
variable {E : AM.Heap} {o6 o7 o8 o10 o12 : Nat} {oa : Option Nat} {s : Ws}

set_option maxRecDepth 100000 in
theorem fx_r15 {m i q c n : Nat} {x : Px} {l : List Px} {tl : AM.Frame} (hn : x.len = (n : Nat)) (h258 : n ≤ 258) (hq : E[q]? = some (some (pxO x))) : ∃ code, ((Try.f22.body).bind (codeAt [1, 1, 1, 1, 1, 1, 1, 1, 0, 1, 0, 0, 1, 1, 0, 0, 1, 1, 0])) = some code ∧ Run X (evT X) 22 m code (fxFq o6 o7 o8 o10 o12 q c l i ++ tl) E ⟨.normal, fxF3 o6 o7 o8 o10 o12 q (lenOf n).1 (lenOf n).2.1 (lenOf n).2.2 c l i, E⟩ := by
  refine ⟨_, rfl, ?_⟩
  have hL := length_ev (H := E) h258
  simp only [pxO, pxR, hn] at hq
  simp only [fxFq, fxF3]
  generalize lenOf n = R3 at *
  generalize l.map pxR = R at *
  generalize l.length = N at *
  (refine ⟨0, ?_⟩; simp (maxSteps := 2000000) -implicitDefEqProofs [-getElem?_pos, List.getElem?_cons_zero, List.getElem?_cons_succ, go_sem, eqV, plen, loadV, storeV, hq, hL, assignV])

set_option maxRecDepth 100000 in
theorem fx_r18 {m i q c n : Nat} {x : Px} {l : List Px} (hn : x.dist = (n : Nat)) (h1 : 1 ≤ n) (h2 : n ≤ 32768) (hq : E[q]? = some (some (pxO x))) : ∃ code, ((Try.f22.body).bind (codeAt [1, 1, 1, 1, 1, 1, 1, 1, 0, 1, 0, 0, 1, 1, 0, 0, 1, 1, 1, 1, 1, 0])) = some code ∧ Run X (evT X) 22 m code (fxFq o6 o7 o8 o10 o12 q c l i) E ⟨.normal, fxF3 o6 o7 o8 o10 o12 q (disOf n).1 (disOf n).2.1 (disOf n).2.2 c l i, E⟩ := by
  refine ⟨_, rfl, ?_⟩
  have hL := distance_ev (H := E) h1 h2
  simp only [pxO, pxR, hn] at hq
  simp only [fxFq, fxF3]
  generalize disOf n = R3 at *
  generalize l.map pxR = R at *
  generalize l.length = N at *
  (refine ⟨0, ?_⟩; simp (maxSteps := 2000000) -implicitDefEqProofs [-getElem?_pos, List.getElem?_cons_zero, List.getElem?_cons_succ, go_sem, eqV, plen, loadV, storeV, hq, hL, assignV])

set_option maxRecDepth 100000 in
theorem fx_r16 {m i q u v w c : Nat} {l : List Px} (h : FxV E o6 o7 o8 o10 o12 oa s) (hl : s.k ≤ 7000000) (hu : u < 288) : ∃ E' oa', FxV E' o6 o7 o8 o10 o12 oa' (symW s lcL flL u) ∧ Kpw E E' o12 oa oa' ∧ ∃ code, ((Try.f22.body).bind (codeAt [1, 1, 1, 1, 1, 1, 1, 1, 0, 1, 0, 0, 1, 1, 0, 0, 1, 1, 1, 0])) = some code ∧ Run X (evT X) 22 m code (fxF3 o6 o7 o8 o10 o12 q u v w c l i) E ⟨.normal, fxF2 o6 o7 o8 o10 o12 q v w c l i, E'⟩ := by
  obtain ⟨n0, n9⟩ := flL_le _ hu
  have hc := at_getD (l := lcL) (y := u) (by unfold lcL; rw [codesR_len, flL_len]; exact hu)
  have hf := at_getD (l := flL) (y := u) (by rw [flL_len]; exact hu)
  obtain ⟨E', oa', g1, g2, g3⟩ := wcode_ev (x := lcL.getD u 0) (I := flL.getD u 0) (n := (flL.getD u 0).toNat) (by omega) h.wr h.ok (by omega) (by omega)
  have hs := symW_ok (cs := lcL) (ls := flL) (y := u) h.ok
  refine ⟨E', oa', h.step g2 g3 hs.1, g3, _, rfl, ?_⟩
  have q6 := h.r6; have q8 := h.r8
  have huI : (u : Int) < 288 := by omega
  simp only [flO, rowI] at q6 q8
  simp only [fxF3, fxF2]
  generalize lcL.getD u 0 = v1 at *
  generalize flL.getD u 0 = v2 at *
  generalize l.map pxR = R at *
  generalize l.length = N at *
  generalize lcL = LC at *
  generalize flL = LL at *
  (refine ⟨0, ?_⟩; simp (maxSteps := 2000000) -implicitDefEqProofs [-getElem?_pos, List.getElem?_cons_zero, List.getElem?_cons_succ, go_sem, eqV, plen, loadV, storeV, retag, q6, q8, huI, hu, hc, hf, g1])

set_option maxRecDepth 100000 in
theorem fx_r19 {m i q u v w c : Nat} {l : List Px} (h : FxV E o6 o7 o8 o10 o12 oa s) (hl : s.k ≤ 7000000) (hu : u < 32) : ∃ E' oa', FxV E' o6 o7 o8 o10 o12 oa' (symW s dcL flD u) ∧ Kpw E E' o12 oa oa' ∧ ∃ code, ((Try.f22.body).bind (codeAt [1, 1, 1, 1, 1, 1, 1, 1, 0, 1, 0, 0, 1, 1, 0, 0, 1, 1, 1, 1, 1, 1, 0])) = some code ∧ Run X (evT X) 22 m code (fxF3 o6 o7 o8 o10 o12 q u v w c l i) E ⟨.normal, fxF2 o6 o7 o8 o10 o12 q v w c l i, E'⟩ := by
  obtain ⟨n0, n9⟩ := flD_le _ hu
  have hc := at_getD (l := dcL) (y := u) (by unfold dcL; rw [codesR_len, flD_len]; exact hu)
  have hf := at_getD (l := flD) (y := u) (by rw [flD_len]; exact hu)
  obtain ⟨E', oa', g1, g2, g3⟩ := wcode_ev (x := dcL.getD u 0) (I := flD.getD u 0) (n := (flD.getD u 0).toNat) (by omega) h.wr h.ok (by omega) (by omega)
  have hs := symW_ok (cs := dcL) (ls := flD) (y := u) h.ok
  refine ⟨E', oa', h.step g2 g3 hs.1, g3, _, rfl, ?_⟩
  have q6 := h.r7; have q8 := h.r10
  have huI : (u : Int) < 32 := by omega
  simp only [flO, rowI] at q6 q8
  simp only [fxF3, fxF2]
  generalize dcL.getD u 0 = v1 at *
  generalize flD.getD u 0 = v2 at *
  generalize l.map pxR = R at *
  generalize l.length = N at *
  generalize dcL = LC at *
  generalize flD = LL at *
  (refine ⟨0, ?_⟩; simp (maxSteps := 2000000) -implicitDefEqProofs [-getElem?_pos, List.getElem?_cons_zero, List.getElem?_cons_succ, go_sem, eqV, plen, loadV, storeV, retag, q6, q8, huI, hu, hc, hf, g1])

set_option maxRecDepth 100000 in
theorem fx_r17 {m i q v w c n : Nat} {x : Px} {l : List Px} (h : FxV E o6 o7 o8 o10 o12 oa s) (hl : s.k ≤ 7000000) (hn : x.len = (n : Nat)) (hn2 : n ≤ 100000) (hv : v ≤ n) (hw : w ≤ 60) (hq : E[q]? = some (some (pxO x))) : ∃ E' oa', FxV E' o6 o7 o8 o10 o12 oa' (fieldW s (x.len - (v : Nat)) w) ∧ Kpw E E' o12 oa oa' ∧ ∃ code, ((Try.f22.body).bind (codeAt [1, 1, 1, 1, 1, 1, 1, 1, 0, 1, 0, 0, 1, 1, 0, 0, 1, 1, 1, 1, 0])) = some code ∧ Run X (evT X) 22 m code (fxF2 o6 o7 o8 o10 o12 q v w c l i) E ⟨.normal, fxFq o6 o7 o8 o10 o12 q c l i, E'⟩ := by
  obtain ⟨E', oa', g1, g2, g3⟩ := wfield_ev (x := x.len - (v : Nat)) (I := (w : Nat)) (n := w) rfl h.wr h.ok (by omega) hw
  refine ⟨E', oa', h.step g2 g3 (fieldW_ok h.ok w).1, g3, _, rfl, ?_⟩
  rw [hn] at g1
  have w1 : IntKind.i64.wrap ((n : Int) - (v : Int)) = (n : Int) - (v : Int) := by rw [wrap_i64 (by omega) (by omega)]
  simp only [pxO, pxR, hn] at hq
  simp only [fxF2, fxFq]
  generalize l.map pxR = R at *
  generalize l.length = N at *
  (refine ⟨0, ?_⟩; simp (maxSteps := 2000000) -implicitDefEqProofs [-getElem?_pos, List.getElem?_cons_zero, List.getElem?_cons_succ, go_sem, eqV, plen, loadV, storeV, hq, w1, g1])

set_option maxRecDepth 100000 in
theorem fx_r20 {m i q v w c n : Nat} {x : Px} {l : List Px} (h : FxV E o6 o7 o8 o10 o12 oa s) (hl : s.k ≤ 7000000) (hn : x.dist = (n : Nat)) (hn2 : n ≤ 100000) (hv : v ≤ n) (hw : w ≤ 60) (hq : E[q]? = some (some (pxO x))) : ∃ E' oa', FxV E' o6 o7 o8 o10 o12 oa' (fieldW s (x.dist - (v : Nat)) w) ∧ Kpw E E' o12 oa oa' ∧ ∃ code, ((Try.f22.body).bind (codeAt [1, 1, 1, 1, 1, 1, 1, 1, 0, 1, 0, 0, 1, 1, 0, 0, 1, 1, 1, 1, 1, 1, 1])) = some code ∧ Run X (evT X) 22 m code (fxF2 o6 o7 o8 o10 o12 q v w c l i) E ⟨.normal, fxFr o6 o7 o8 o10 o12 c l i, E'⟩ := by
  obtain ⟨E', oa', g1, g2, g3⟩ := wfield_ev (x := x.dist - (v : Nat)) (I := (w : Nat)) (n := w) rfl h.wr h.ok (by omega) hw
  refine ⟨E', oa', h.step g2 g3 (fieldW_ok h.ok w).1, g3, _, rfl, ?_⟩
  rw [hn] at g1
  have w1 : IntKind.i64.wrap ((n : Int) - (v : Int)) = (n : Int) - (v : Int) := by rw [wrap_i64 (by omega) (by omega)]
  simp only [pxO, pxR, hn] at hq
  simp only [fxF2, fxFr]
  generalize l.map pxR = R at *
  generalize l.length = N at *
  (refine ⟨0, ?_⟩; simp (maxSteps := 2000000) -implicitDefEqProofs [-getElem?_pos, List.getElem?_cons_zero, List.getElem?_cons_succ, go_sem, eqV, plen, loadV, storeV, hq, w1, g1])

end

end Go.Proofs.Yteblpjhkgdpchaa

/- Walks: Fixed: one piece. -/
namespace Go.Proofs.Yteblpjhkgdpchaa
open Go.AM
set_option linter.unusedSimpArgs false
set_option linter.unusedVariables false

theorem may_dist {x : Px} (h : mayR x = true) (h0 : ¬ x.len = 0) : x.dist ≤ 32768 := by
  unfold mayR at h
  rw [if_neg h0] at h
  simp at h
  omega

theorem pxW_ok {s : Ws} {x : Px} (h : WsOk s) (hm : mayR x = true) : WsOk (pxW s x) ∧ (pxW s x).k ≤ s.k + 40 := by
  unfold pxW
  by_cases h0 : x.len = 0
  · rw [if_pos h0]
    obtain ⟨h1, h2⟩ := symW_ok (cs := lcL) (ls := flL) (y := x.byte.toNat) h
    have := flL_le x.byte.toNat (by have := x.byte.toNat_lt; omega)
    exact ⟨h1, by omega⟩
  · rw [if_neg h0]
    obtain ⟨n, d, hn, hd, n3, n258, d1⟩ := may_len hm h0
    have hd2 := may_dist hm h0
    rw [hn, hd] at *
    simp only [Int.toNat_natCast] at *
    obtain ⟨a1, a2, a3, a4, a5⟩ := lenOf_facts n (by omega) n3
    obtain ⟨b1, b2, b3, b4⟩ := disOf_facts d1 (by omega)
    obtain ⟨h1, h2⟩ := symW_ok (cs := lcL) (ls := flL) (y := (lenOf n).1) h
    obtain ⟨h3, h4⟩ := fieldW_ok (x := (n : Int) - ((lenOf n).2.1 : Nat)) h1 (lenOf n).2.2
    obtain ⟨h5, h6⟩ := symW_ok (cs := dcL) (ls := flD) (y := (disOf d).1) h3
    obtain ⟨h7, h8⟩ := fieldW_ok (x := (d : Int) - ((disOf d).2.1 : Nat)) h5 (disOf d).2.2
    have := flL_le (lenOf n).1 (by omega)
    have := flD_le (disOf d).1 (by omega)
    exact ⟨h7, by omega⟩

section
variable {E : AM.Heap} {o6 o7 o8 o10 o12 : Nat} {oa : Option Nat} {s : Ws}

set_option maxRecDepth 100000 in
theorem fx_body {m i c : Nat} {x : Px} {l : List Px} (h : FxV E o6 o7 o8 o10 o12 oa s) (hl : s.k ≤ 6000000) (hx : l[i]? = some x) (hll : l.length ≤ 100000) (hm : mayR x = true) : ∃ E' oa', FxV E' o6 o7 o8 o10 o12 oa' (pxW s x) ∧ ∃ code, ((Try.f22.body).bind (codeAt [1, 1, 1, 1, 1, 1, 1, 1, 0, 1, 0, 0, 1, 1])) = some code ∧ Run X (evT X) 22 m code (fxFr o6 o7 o8 o10 o12 c l i ++ [(49, .bool true)]) E ⟨.normal, fxFr o6 o7 o8 o10 o12 c l (i + 1), E'⟩ := by
  have hx' : (l.map pxR)[i]? = some (pxR x) := by rw [List.getElem?_map, hx]; rfl
  have hi := ltAt hx
  have hiI : (i : Int) < (l.length : Int) := by omega
  have hlm : (l.map pxR).length = l.length := by simp
  have hr12 : ∃ code, ((Try.f22.body).bind (codeAt [1, 1, 1, 1, 1, 1, 1, 1, 0, 1, 0, 0, 1, 1, 0, 0, 0])) = some code ∧ Run X (evT X) 22 m code (fxFr o6 o7 o8 o10 o12 c l i ++ [(49, .bool true)]) E ⟨.normal, fxFq o6 o7 o8 o10 o12 E.length c l i, E ++ [some (pxO x)]⟩ := by
    refine ⟨_, rfl, ?_⟩
    simp only [fxFr, fxFq, pxO, pxR] at hx' ⊢
    generalize l.map pxR = R at *
    generalize l.length = N at *
    (refine ⟨0, ?_⟩; simp (maxSteps := 2000000) -implicitDefEqProofs [-getElem?_pos, List.getElem?_cons_zero, List.getElem?_cons_succ, go_sem, eqV, plen, loadV, storeV, hx', hi, hiI, hlm, mkPx, retagL, retag, cat_at, cat_set, splice, flatCells, scalars, scalar])
  have hF0 := h.cat [some (pxO x)]
  have hq0 : (E ++ [some (pxO x)])[E.length]? = some (some (pxO x)) := by simp
  have hlt := h.wr.lt
  generalize E ++ [some (pxO x)] = E0 at *
  have hqn : E.length ≠ o12 ∧ ∀ a, oa = some a → E.length ≠ a := ⟨by omega, fun a ha => by have := hlt.2 a ha; omega⟩
  generalize E.length = q at *
  have hr13 : ∃ code, ((Try.f22.body).bind (codeAt [1, 1, 1, 1, 1, 1, 1, 1, 0, 1, 0, 0, 1, 1, 0, 0, 1, 0, 0])) = some code ∧ Run X (evT X) 22 m code (fxFq o6 o7 o8 o10 o12 q c l i) E0 ⟨.normal, fxFq o6 o7 o8 o10 o12 q c l i ++ [(54, .bool (decide (x.len = 0)))], E0⟩ := by
    refine ⟨_, rfl, ?_⟩
    simp only [fxFq, pxO, pxR] at hq0 ⊢
    generalize l.map pxR = R at *
    generalize l.length = N at *
    by_cases h0 : x.len = 0
    · rw [decide_eq_true h0]
      rw [h0] at hq0
      (refine ⟨0, ?_⟩; simp (maxSteps := 2000000) -implicitDefEqProofs [-getElem?_pos, List.getElem?_cons_zero, List.getElem?_cons_succ, go_sem, eqV, plen, loadV, storeV, hq0])
    · have h0b : (x.len == 0) = false := by simpa using h0
      rw [decide_eq_false h0]
      (refine ⟨0, ?_⟩; simp (maxSteps := 2000000) -implicitDefEqProofs [-getElem?_pos, List.getElem?_cons_zero, List.getElem?_cons_succ, go_sem, eqV, plen, loadV, storeV, hq0, h0, h0b])
  have w1 : IntKind.i64.wrap ((i : Int) + 1) = ((i + 1 : Nat) : Int) := by rw [wrap_i64 (by omega) (by omega)]; omega
  have hr21 : ∀ E', ∃ code, ((Try.f22.body).bind (codeAt [1, 1, 1, 1, 1, 1, 1, 1, 0, 1, 0, 0, 1, 1, 1])) = some code ∧ Run X (evT X) 22 m code (fxFr o6 o7 o8 o10 o12 c l i) E' ⟨.normal, fxFr o6 o7 o8 o10 o12 c l (i + 1), E'⟩ := by
    intro E'
    refine ⟨_, rfl, ?_⟩
    simp only [fxFr]
    generalize l.map pxR = R at *
    generalize l.length = N at *
    generalize i + 1 = i1 at *
    (refine ⟨0, ?_⟩; simp (maxSteps := 2000000) -implicitDefEqProofs [-getElem?_pos, List.getElem?_cons_zero, List.getElem?_cons_succ, go_sem, eqV, plen, loadV, storeV, w1])
  unfold pxW
  by_cases h0 : x.len = 0
  · rw [if_pos h0]
    rw [decide_eq_true h0] at hr13
    obtain ⟨E1, oa1, g1, g2, g3⟩ := fx_r14 (m := m) (i := i) (c := c) (l := l) (tl := [(54, .bool true)]) hF0 (by omega) hq0
    refine ⟨E1, oa1, g1, _, rfl, ?_⟩
    apply Run.seq (fr' := fxFr o6 o7 o8 o10 o12 c l i) (H' := E1)
    · refine Run.block_exit ?_
      apply Run.seq (piece hr12 _ rfl)
      refine Run.seq_out ?_ (by simp)
      apply Run.seq (piece hr13 _ rfl)
      refine Run.cond (d := true) (by simp [fxFq, evalO, getF]) ?_
      exact Run.seq (piece g3 _ rfl) ⟨0, rfl⟩
    · exact piece (hr21 E1) _ rfl
  · rw [if_neg h0]
    rw [decide_eq_false h0] at hr13
    obtain ⟨n, d, hn, hd, n3, n258, d1⟩ := may_len hm h0
    have hd2 := may_dist hm h0
    have en : x.len.toNat = n := by omega
    have ed : x.dist.toNat = d := by omega
    rw [en, ed]
    obtain ⟨a1, a2, a3, a4, a5⟩ := lenOf_facts n (by omega) n3
    obtain ⟨b1, b2, b3, b4⟩ := disOf_facts d1 (by omega)
    have f1 := flL_le (lenOf n).1 (by omega)
    have f2 := flD_le (disOf d).1 (by omega)
    have hr15 := fx_r15 (m := m) (E := E0) (o6 := o6) (o7 := o7) (o8 := o8) (o10 := o10) (o12 := o12) (i := i) (c := c) (l := l) (tl := [(54, .bool false)]) hn n258 hq0
    obtain ⟨E1, oa1, g1, g2, g3⟩ := fx_r16 (m := m) (i := i) (q := q) (u := (lenOf n).1) (v := (lenOf n).2.1) (w := (lenOf n).2.2) (c := c) (l := l) hF0 (by omega) (by omega)
    have k1 := (symW_ok (cs := lcL) (ls := flL) (y := (lenOf n).1) h.ok).2
    have kq : ∀ {E2 : AM.Heap} {oa2 : Option Nat}, Kpw E0 E2 o12 oa oa2 → E2[q]? = some (some (pxO x)) := fun hk => by rw [hk.rest q (ltAt hq0) hqn.1 hqn.2]; exact hq0
    obtain ⟨E2, oa2, g4, g5, g6⟩ := fx_r17 (m := m) (i := i) (q := q) (v := (lenOf n).2.1) (w := (lenOf n).2.2) (c := c) (l := l) g1 (by omega) hn (by omega) a3 (by omega) (kq g2)
    have k2 := (fieldW_ok (x := x.len - ((lenOf n).2.1 : Nat)) g1.ok (lenOf n).2.2).2
    have hr18 := fx_r18 (m := m) (o6 := o6) (o7 := o7) (o8 := o8) (o10 := o10) (o12 := o12) (i := i) (c := c) (l := l) hd d1 (by omega) (kq (g2.trans g5))
    obtain ⟨E3, oa3, g7, g8, g9⟩ := fx_r19 (m := m) (i := i) (q := q) (u := (disOf d).1) (v := (disOf d).2.1) (w := (disOf d).2.2) (c := c) (l := l) g4 (by omega) (by omega)
    have k3 := (symW_ok (cs := dcL) (ls := flD) (y := (disOf d).1) g4.ok).2
    obtain ⟨E4, oa4, g10, g11, g12⟩ := fx_r20 (m := m) (i := i) (q := q) (v := (disOf d).2.1) (w := (disOf d).2.2) (c := c) (l := l) g7 (by omega) hd (by omega) b2 (by omega) (kq ((g2.trans g5).trans g8))
    refine ⟨E4, oa4, g10, _, rfl, ?_⟩
    apply Run.seq (fr' := fxFr o6 o7 o8 o10 o12 c l i) (H' := E4)
    · refine Run.block ?_ (by simp)
      apply Run.seq (piece hr12 _ rfl)
      apply Run.seq (fr' := fxFq o6 o7 o8 o10 o12 q c l i ++ [(54, .bool false)]) (H' := E0)
      · apply Run.seq (piece hr13 _ rfl)
        exact Run.cond (d := false) (by simp [fxFq, evalO, getF]) ⟨0, rfl⟩
      apply Run.seq (piece hr15 _ rfl)
      apply Run.seq (piece g3 _ rfl)
      apply Run.seq (piece g6 _ rfl)
      apply Run.seq (piece hr18 _ rfl)
      apply Run.seq (piece g9 _ rfl)
      exact piece g12 _ rfl
    · exact piece (hr21 E4) _ rfl

end

end Go.Proofs.Yteblpjhkgdpchaa

/- Walks, events: Fixed. -/
namespace Go.Proofs.Yteblpjhkgdpchaa
open Go.AM
set_option linter.unusedSimpArgs false
set_option linter.unusedVariables false

theorem exp_may : ∀ {l : List Px} {o : List UInt8}, (expF l o).2 = 0 → ∀ x ∈ l, mayR x = true
  | [], _, _, x, hx => by cases hx
  | y :: l, o, h, x, hx => by
    unfold expF at h
    split at h
    · cases h
    · rename_i hm
      have hm : mayR y = true := by simpa using hm
      rcases List.mem_cons.1 hx with rfl | hx
      · exact hm
      · split at h
        · exact exp_may h x hx
        · split at h
          · cases h
          · exact exp_may h x hx

theorem foldl_ok : ∀ (l : List Px) (s : Ws), WsOk s → (∀ x ∈ l, mayR x = true) → WsOk (l.foldl pxW s) ∧ (l.foldl pxW s).k ≤ s.k + 40 * l.length
  | [], s, h, _ => ⟨h, by simp⟩
  | x :: l, s, h, hm => by
    obtain ⟨h1, h2⟩ := pxW_ok h (hm x (List.mem_cons_self ..))
    obtain ⟨h3, h4⟩ := foldl_ok l (pxW s x) h1 fun y hy => hm y (List.mem_cons_of_mem _ hy)
    exact ⟨h3, by simp only [List.foldl_cons, List.length_cons]; omega⟩

section
variable {E : AM.Heap} {o6 o7 o8 o10 o12 : Nat} {oa : Option Nat} {s : Ws}

set_option maxRecDepth 100000 in
theorem fx_loop {m c : Nat} {l : List Px} (h : FxV E o6 o7 o8 o10 o12 oa s) (hs : s.k ≤ 100) (hll : l.length ≤ 2000) (hm : ∀ x ∈ l, mayR x = true) : ∃ code, ((Try.f22.body).bind (codeAt [1, 1, 1, 1, 1, 1, 1, 1, 0, 1])) = some code ∧ Tells (Goes fun fr E' => ∃ oa', fr = fxFr o6 o7 o8 o10 o12 c l l.length ++ [(49, .bool false)] ∧ FxV E' o6 o7 o8 o10 o12 oa' (l.foldl pxW s)) X (evT X) 22 m code (fxFr o6 o7 o8 o10 o12 c l 0) E := by
  refine ⟨_, rfl, ?_⟩
  apply Tells.block
  refine Tells.loopP (I := fun k fr E' => ∃ i oa' s', i ≤ l.length ∧ k = l.length - i ∧ fr = fxFr o6 o7 o8 o10 o12 c l i ∧ FxV E' o6 o7 o8 o10 o12 oa' s' ∧ s'.k ≤ 100 + 40 * i ∧ (l.drop i).foldl pxW s' = l.foldl pxW s) ?_ (k := l.length) ⟨0, oa, s, by omega, rfl, rfl, h, by omega, rfl⟩
  rintro k fr E' ⟨i, oa', s', hi, rfl, rfl, hF, hk, hf⟩
  by_cases hin : i = l.length
  · rw [List.drop_of_length_le (by omega), List.foldl_nil] at hf
    refine Tells.of (o := ⟨.exit 0, fxFr o6 o7 o8 o10 o12 c l i ++ [(49, .bool false)], E'⟩) ?_ (.inr ⟨by simp, rfl, oa', by rw [hin], by rw [← hf]; exact hF⟩)
    subst hin
    refine ⟨0, ?_⟩
    simp only [fxFr]
    generalize l.map pxR = R at *
    generalize l.length = N at *
    simp (maxSteps := 2000000) -implicitDefEqProofs [-getElem?_pos, List.getElem?_cons_zero, List.getElem?_cons_succ, go_sem, eqV, plen, loadV, storeV]
  · have hlt : i < l.length := by omega
    have hltI : (i : Int) < (l.length : Int) := by omega
    obtain ⟨x, hx⟩ : ∃ x, l[i]? = some x := ⟨_, List.getElem?_eq_getElem hlt⟩
    have hmx := hm x (List.mem_of_getElem? hx)
    have hdrop : l.drop i = x :: l.drop (i + 1) := by
      rw [List.drop_eq_getElem_cons hlt]
      rw [List.getElem?_eq_getElem hlt] at hx
      rw [Option.some.inj hx]
    rw [hdrop, List.foldl_cons] at hf
    obtain ⟨E2, oa2, g1, g2⟩ := fx_body (m := m) (c := c) hF (by omega) hx (by omega) hmx
    have hk2 := (pxW_ok hF.ok hmx).2
    refine Tells.of (o := ⟨.normal, fxFr o6 o7 o8 o10 o12 c l (i + 1), E2⟩) ?_ (.inl ⟨rfl, l.length - (i + 1), by omega, i + 1, oa2, _, by omega, rfl, rfl, g1, by omega, hf⟩)
    apply Run.seq (fr' := fxFr o6 o7 o8 o10 o12 c l i ++ [(49, .bool true)]) (H' := E')
    · simp only [fxFr]
      generalize l.map pxR = R at *
      generalize l.length = N at *
      (refine ⟨0, ?_⟩; simp (maxSteps := 2000000) -implicitDefEqProofs [-getElem?_pos, List.getElem?_cons_zero, List.getElem?_cons_succ, go_sem, eqV, plen, loadV, storeV, hltI, hlt])
    apply Run.seq (fr' := fxFr o6 o7 o8 o10 o12 c l i ++ [(49, .bool true)]) (H' := E')
    · exact Run.cond (d := true) (by simp [fxFr, evalO, getF]) ⟨0, rfl⟩
    exact piece g2 _ rfl

set_option maxRecDepth 100000 in
theorem fx_r22 {m c i : Nat} {l : List Px} {tl : AM.Frame} (h : FxV E o6 o7 o8 o10 o12 oa s) (hl : s.k ≤ 7000000) : ∃ E' oa', FxV E' o6 o7 o8 o10 o12 oa' (symW s lcL flL 256) ∧ ∃ code, ((Try.f22.body).bind (codeAt [1, 1, 1, 1, 1, 1, 1, 1, 1, 0])) = some code ∧ Run X (evT X) 22 m code (fxFr o6 o7 o8 o10 o12 c l i ++ tl) E ⟨.normal, [(12, .ptr o12 0 0 0)], E'⟩ := by
  obtain ⟨n0, n9⟩ := flL_le 256 (by omega)
  have hc := at_getD (l := lcL) (y := 256) (by unfold lcL; rw [codesR_len, flL_len]; omega)
  have hf := at_getD (l := flL) (y := 256) (by rw [flL_len]; omega)
  obtain ⟨E', oa', g1, g2, g3⟩ := wcode_ev (x := lcL.getD 256 0) (I := flL.getD 256 0) (n := (flL.getD 256 0).toNat) (by omega) h.wr h.ok (by omega) (by omega)
  have hs := symW_ok (cs := lcL) (ls := flL) (y := 256) h.ok
  refine ⟨E', oa', h.step g2 g3 hs.1, _, rfl, ?_⟩
  have q6 := h.r6; have q8 := h.r8
  simp only [flO, rowI] at q6 q8
  simp only [fxFr]
  generalize lcL.getD 256 0 = v1 at *
  generalize flL.getD 256 0 = v2 at *
  generalize l.map pxR = R at *
  generalize l.length = N at *
  generalize lcL = LC at *
  generalize flL = LL at *
  (refine ⟨0, ?_⟩; simp (maxSteps := 2000000) -implicitDefEqProofs [-getElem?_pos, List.getElem?_cons_zero, List.getElem?_cons_succ, go_sem, eqV, plen, loadV, storeV, retag, q6, q8, hc, hf, g1])

set_option maxRecDepth 100000 in
theorem fx_r23 {m : Nat} (h : FxV E o6 o7 o8 o10 o12 oa s) (hne : s.o ≠ []) : ∃ a g ob, E[a]? = some (some ob) ∧ Rw (.pb s.o) g ob ∧ ∃ code, ((Try.f22.body).bind (codeAt [1, 1, 1, 1, 1, 1, 1, 1, 1, 1, 0])) = some code ∧ Run X (evT X) 22 m code [(12, .ptr o12 0 0 0)] E ⟨.normal, [(2, .sl a 0 s.o.length g), (3, .int .i64 0)], E⟩ := by
  obtain ⟨⟨vo, τ, a1, h0, ho⟩, hn⟩ := id h.wr
  cases hq : oa with
  | none => rw [hq] at ho; exact absurd ho.1 hne
  | some a =>
    rw [hq] at ho
    obtain ⟨g, τ2, ob, hτ2, rfl, h3, h4⟩ := ho
    have ht : τ2 = 0 := hτ2.elim id id
    refine ⟨a, g, ob, h3, ⟨h4.p, h4.g, h4.row, h4.ids, by rw [h4.tg, ht]⟩, _, rfl, ?_⟩
    simp only [wrBx] at h0
    generalize s.o.length = N at *
    (refine ⟨0, ?_⟩; simp (maxSteps := 2000000) -implicitDefEqProofs [-getElem?_pos, List.getElem?_cons_zero, List.getElem?_cons_succ, go_sem, eqV, plen, loadV, storeV, h0, assignV])

end

end Go.Proofs.Yteblpjhkgdpchaa

/- Walks, events: Fixed, whole. -/
namespace Go.Proofs.Yteblpjhkgdpchaa
open Go.AM
set_option linter.unusedSimpArgs false
set_option linter.unusedVariables false

theorem symW_ne {s : Ws} {cs ls : List Int} {y : Nat} (h : WsOk s) (hk : 1 ≤ s.k) : (symW s cs ls y).o ≠ [] := by
  obtain ⟨h1, h2⟩ := symW_ok (cs := cs) (ls := ls) (y := y) h
  intro e
  unfold WsOk at h1
  rw [e] at h1
  simp at h1
  omega

theorem fixW_ne {l : List Px} (hm : ∀ x ∈ l, mayR x = true) : (fixW l).o ≠ [] := by
  unfold fixW
  have h0 : WsOk ⟨0, []⟩ := rfl
  obtain ⟨h1, h2⟩ := fieldW_ok (x := 1) h0 1
  obtain ⟨h3, h4⟩ := fieldW_ok (x := 1) h1 2
  obtain ⟨h5, h6⟩ := foldl_ok l _ h3 hm
  have hmono : ∀ (l : List Px) (s : Ws), WsOk s → (∀ x ∈ l, mayR x = true) → s.k ≤ (l.foldl pxW s).k := by
    intro l
    induction l with
    | nil => intro s _ _; exact Nat.le_refl _
    | cons x l ih =>
      intro s hs hm
      obtain ⟨h1, _⟩ := pxW_ok hs (hm x (List.mem_cons_self ..))
      refine Nat.le_trans ?_ (ih (pxW s x) h1 fun y hy => hm y (List.mem_cons_of_mem _ hy))
      unfold pxW
      split
      · have := (symW_ok (cs := lcL) (ls := flL) (y := x.byte.toNat) hs).2
        omega
      · have a1 := symW_ok (cs := lcL) (ls := flL) (y := (lenOf x.len.toNat).1) hs
        have a2 := fieldW_ok (x := x.len - ((lenOf x.len.toNat).2.1 : Nat)) a1.1 (lenOf x.len.toNat).2.2
        have a3 := symW_ok (cs := dcL) (ls := flD) (y := (disOf x.dist.toNat).1) a2.1
        have a4 := fieldW_ok (x := x.dist - ((disOf x.dist.toNat).2.1 : Nat)) a3.1 (disOf x.dist.toNat).2.2
        have b1 := a1.2; have b2 := a2.2; have b3 := a3.2; have b4 := a4.2
        omega
  have := hmono l _ h3 hm
  exact symW_ne h5 (by omega)

theorem pay_flO {H : AM.Heap} {o : Nat} {l : List Int} (h : H[o]? = some (some (flO l))) : payOf H (.sl o 0 l.length 0) = some (.pi .i64 l) := by
  simp [payOf, live, h, flO, psub]

theorem bdWr : buildV X 46 [] = some (.agg (.pc [.ro 0 .pn 0, .int .i64 0])) := by kernel_rfl

/-- what Fixed leaves -/
def fiX (l : List Px) (fr : AM.Frame) (E : AM.Heap) : Prop := ∃ a g ob, getF fr 2 = .sl a 0 (fixR l).1.length g ∧ getF fr 3 = .int .i64 (fixR l).2 ∧ E[a]? = some (some ob) ∧ Rw (.pb (fixR l).1) g ob

section
variable {c : Nat} {l : List Px}

set_option maxRecDepth 100000 in
theorem fixed_code {m : Nat} (hl : l.length ≤ 2000) : ∃ code, Try.f22.body = some code ∧ Tells (Rets (fiX l)) X (evT X) 22 m code [(0, .ro c (.pr 3 (l.map pxR)) 1)] [] := by
  refine ⟨_, rfl, ?_⟩
  obtain ⟨obE, hwE, hEx⟩ := expand_ev (H := [some (⟨.pb [], 0, none, 0, true, false, 0⟩ : AM.Obj)]) (a := .ro c (.pr 3 (l.map pxR)) 1) (l := l) rfl hl
  have hmay := exp_may (l := l) (o := [])
  unfold fiX fixR
  generalize hex : expF l [] = r at *
  obtain ⟨o, e⟩ := r
  simp only at hEx hmay ⊢
  apply Tells.seq (fr' := [(0, .ro c (.pr 3 (l.map pxR)) 1)]) (H' := [some (⟨.pb [], 0, none, 0, true, false, 0⟩ : AM.Obj)])
  · generalize l.map pxR = R at *
    (refine ⟨0, ?_⟩; simp (maxSteps := 2000000) -implicitDefEqProofs [-getElem?_pos, List.getElem?_cons_zero, List.getElem?_cons_succ, go_sem, eqV, plen, loadV, storeV, assignV, rowOf, emBy])
  apply Tells.assoc
  apply Tells.seq (fr' := [(0, .ro c (.pr 3 (l.map pxR)) 1), (5, .int .i64 e)]) (H' := [some (⟨.pb [], 0, none, 0, true, false, 0⟩ : AM.Obj), some obE])
  · simp only [List.length_singleton, List.singleton_append] at hEx
    generalize l.map pxR = R at *
    generalize o.length = K at *
    (refine ⟨0, ?_⟩; simp (maxSteps := 2000000) -implicitDefEqProofs [-getElem?_pos, List.getElem?_cons_zero, List.getElem?_cons_succ, go_sem, eqV, plen, loadV, storeV, hEx, assignV])
  apply Tells.assoc
  by_cases he : ¬ e = 0
  · have heb : (e != 0) = true := by simpa using he
    rw [if_pos he]
    refine Tells.of (o := ⟨.ret, [(2, .sl 2 0 0 0), (3, .int .i64 e)], [some (⟨.pb [], 0, none, 0, true, false, 0⟩ : AM.Obj), some obE, some (⟨.pb [], 0, none, 0, true, false, 0⟩ : AM.Obj)]⟩) ?_ ⟨rfl, 2, 0, _, rfl, rfl, rfl, ⟨rfl, rfl, rfl, rfl, rfl⟩⟩
    apply Run.seq (fr' := [(0, .ro c (.pr 3 (l.map pxR)) 1), (5, .int .i64 e), (24, .bool true)]) (H' := [some (⟨.pb [], 0, none, 0, true, false, 0⟩ : AM.Obj), some obE])
    · generalize l.map pxR = R at *
      (refine ⟨0, ?_⟩; simp (maxSteps := 2000000) -implicitDefEqProofs [-getElem?_pos, List.getElem?_cons_zero, List.getElem?_cons_succ, go_sem, eqV, plen, loadV, storeV, he, heb])
    refine Run.seq_out ?_ (by simp)
    refine Run.cond (d := true) (by simp [evalO, getF]) ?_
    apply Run.seq (fr' := [(2, .sl 2 0 0 0), (3, .int .i64 e)]) (H' := [some (⟨.pb [], 0, none, 0, true, false, 0⟩ : AM.Obj), some obE, some (⟨.pb [], 0, none, 0, true, false, 0⟩ : AM.Obj)])
    · generalize l.map pxR = R at *
      (refine ⟨0, ?_⟩; simp (maxSteps := 2000000) -implicitDefEqProofs [-getElem?_pos, List.getElem?_cons_zero, List.getElem?_cons_succ, go_sem, eqV, plen, loadV, storeV, assignV, rowOf, emBy])
    · exact ⟨0, rfl⟩
  have he : e = 0 := Classical.not_not.1 he
  subst he
  rw [if_neg (by simp)]
  simp only
  have hm := hmay rfl
  apply Tells.seq (fr' := [(0, .ro c (.pr 3 (l.map pxR)) 1), (5, .int .i64 0), (24, .bool false)]) (H' := [some (⟨.pb [], 0, none, 0, true, false, 0⟩ : AM.Obj), some obE])
  · generalize l.map pxR = R at *
    (refine ⟨0, ?_⟩; simp (maxSteps := 2000000) -implicitDefEqProofs [-getElem?_pos, List.getElem?_cons_zero, List.getElem?_cons_succ, go_sem, eqV, plen, loadV, storeV])
  apply Tells.seq (fr' := [(0, .ro c (.pr 3 (l.map pxR)) 1), (5, .int .i64 0), (24, .bool false)]) (H' := [some (⟨.pb [], 0, none, 0, true, false, 0⟩ : AM.Obj), some obE])
  · exact Run.cond (d := false) (by simp [evalO, getF]) ⟨0, rfl⟩
  have hF := E_fl [some (⟨.pb [], 0, none, 0, true, false, 0⟩ : AM.Obj), some obE]
  have hC1 := E_codes (H := [some (⟨.pb [], 0, none, 0, true, false, 0⟩ : AM.Obj), some obE, some (flO flL), some (flO flD)]) (a := .sl 2 0 288 0) (l := flL) (by have := pay_flO (H := [some (⟨.pb [], 0, none, 0, true, false, 0⟩ : AM.Obj), some obE, some (flO flL), some (flO flD)]) (o := 2) (l := flL) rfl; rwa [flL_len] at this) flL_ok
  have hC2 := E_codes (H := [some (⟨.pb [], 0, none, 0, true, false, 0⟩ : AM.Obj), some obE, some (flO flL), some (flO flD), rowI 288 lcL]) (a := .sl 3 0 32 0) (l := flD) (by have := pay_flO (H := [some (⟨.pb [], 0, none, 0, true, false, 0⟩ : AM.Obj), some obE, some (flO flL), some (flO flD), rowI 288 lcL]) (o := 3) (l := flD) rfl; rwa [flD_len] at this) flD_ok
  rw [flL_len] at hC1
  rw [flD_len] at hC2
  simp only [List.length_cons, List.length_nil, List.cons_append, List.nil_append] at hF hC1 hC2
  change evT X _ _ _ = some (_, [_, _, _, _, rowI 288 lcL]) at hC1
  change evT X _ _ _ = some (_, [_, _, _, _, _, rowI 32 dcL]) at hC2
  have hV : FxV [some (⟨.pb [], 0, none, 0, true, false, 0⟩ : AM.Obj), some obE, some (flO flL), some (flO flD), rowI 288 lcL, rowI 32 dcL, some (wrBx ⟨0, []⟩ (.ro 0 .pn 0) 0)] 2 3 4 5 6 none ⟨0, []⟩ := ⟨rfl, rfl, rfl, rfl, ⟨⟨_, 0, .inl rfl, rfl, rfl, 0, .inl rfl, rfl⟩, fun a h => by cases h⟩, by omega, fun a h => (by cases h), rfl⟩
  generalize rowI 288 lcL = r8 at *
  generalize rowI 32 dcL = r10 at *
  generalize some (flO flL) = r6 at *
  generalize some (flO flD) = r7 at *
  generalize some (⟨.pb [], 0, none, 0, true, false, 0⟩ : AM.Obj) = r0 at *
  apply Tells.seq (fr' := [(0, .ro c (.pr 3 (l.map pxR)) 1), (6, .sl 2 0 288 0), (7, .sl 3 0 32 0)]) (H' := [r0, some obE, r6, r7])
  · generalize l.map pxR = R at *
    (refine ⟨0, ?_⟩; simp (maxSteps := 2000000) -implicitDefEqProofs [-getElem?_pos, List.getElem?_cons_zero, List.getElem?_cons_succ, go_sem, eqV, plen, loadV, storeV, hF, assignV])
  apply Tells.seq (fr' := [(0, .ro c (.pr 3 (l.map pxR)) 1), (6, .sl 2 0 288 0), (7, .sl 3 0 32 0), (8, .sl 4 0 288 0)]) (H' := [r0, some obE, r6, r7, r8])
  · generalize l.map pxR = R at *
    (refine ⟨0, ?_⟩; simp (maxSteps := 2000000) -implicitDefEqProofs [-getElem?_pos, List.getElem?_cons_zero, List.getElem?_cons_succ, go_sem, eqV, plen, loadV, storeV, hC1, assignV])
  apply Tells.seq (fr' := [(0, .ro c (.pr 3 (l.map pxR)) 1), (6, .sl 2 0 288 0), (7, .sl 3 0 32 0), (8, .sl 4 0 288 0), (10, .sl 5 0 32 0)]) (H' := [r0, some obE, r6, r7, r8, r10])
  · generalize l.map pxR = R at *
    (refine ⟨0, ?_⟩; simp (maxSteps := 2000000) -implicitDefEqProofs [-getElem?_pos, List.getElem?_cons_zero, List.getElem?_cons_succ, go_sem, eqV, plen, loadV, storeV, hC2, assignV])
  apply Tells.seq (fr' := [(0, .ro c (.pr 3 (l.map pxR)) 1), (6, .sl 2 0 288 0), (7, .sl 3 0 32 0), (8, .sl 4 0 288 0), (10, .sl 5 0 32 0), (12, .ptr 6 0 0 0)]) (H' := [r0, some obE, r6, r7, r8, r10, some (wrBx ⟨0, []⟩ (.ro 0 .pn 0) 0)])
  · simp only [wrBx]
    generalize l.map pxR = R at *
    (refine ⟨0, ?_⟩; simp (maxSteps := 2000000) -implicitDefEqProofs [-getElem?_pos, List.getElem?_cons_zero, List.getElem?_cons_succ, go_sem, eqV, plen, loadV, storeV, bdWr, assignV])
  clear hC1 hC2 hF hEx
  generalize [r0, some obE, r6, r7, r8, r10, some (wrBx ⟨0, []⟩ (.ro 0 .pn 0) 0)] = E0 at *
  obtain ⟨E1, oa1, g1, g2, g3⟩ := wfield_ev (x := 1) (I := 1) (n := 1) rfl hV.wr hV.ok (by simp) (by omega)
  have hV1 := hV.step g2 g3 (fieldW_ok hV.ok 1).1
  apply Tells.seq (fr' := [(0, .ro c (.pr 3 (l.map pxR)) 1), (6, .sl 2 0 288 0), (7, .sl 3 0 32 0), (8, .sl 4 0 288 0), (10, .sl 5 0 32 0), (12, .ptr 6 0 0 0)]) (H' := E1)
  · generalize l.map pxR = R at *
    (refine ⟨0, ?_⟩; simp (maxSteps := 2000000) -implicitDefEqProofs [-getElem?_pos, List.getElem?_cons_zero, List.getElem?_cons_succ, go_sem, eqV, plen, loadV, storeV, g1])
  have k1 := (fieldW_ok (x := 1) hV.ok 1).2
  obtain ⟨E2, oa2, g4, g5, g6⟩ := wfield_ev (x := 1) (I := 2) (n := 2) rfl hV1.wr hV1.ok (by rw [k1]; simp) (by omega)
  have hV2 := hV1.step g5 g6 (fieldW_ok hV1.ok 2).1
  have k2 := (fieldW_ok (x := 1) hV1.ok 2).2
  apply Tells.seq (fr' := [(0, .ro c (.pr 3 (l.map pxR)) 1), (6, .sl 2 0 288 0), (7, .sl 3 0 32 0), (8, .sl 4 0 288 0), (10, .sl 5 0 32 0), (12, .ptr 6 0 0 0)]) (H' := E2)
  · generalize l.map pxR = R at *
    (refine ⟨0, ?_⟩; simp (maxSteps := 2000000) -implicitDefEqProofs [-getElem?_pos, List.getElem?_cons_zero, List.getElem?_cons_succ, go_sem, eqV, plen, loadV, storeV, g4])
  apply Tells.assoc
  apply Tells.seq (fr' := fxFr 2 3 4 5 6 c l 0) (H' := E2)
  · have hll : (l.map pxR).length = l.length := by simp
    simp only [fxFr]
    generalize l.map pxR = R at *
    generalize l.length = N at *
    (refine ⟨0, ?_⟩; simp (maxSteps := 2000000) -implicitDefEqProofs [-getElem?_pos, List.getElem?_cons_zero, List.getElem?_cons_succ, go_sem, eqV, plen, loadV, storeV, hll])
  have hk3 : (fieldW (fieldW ⟨0, []⟩ 1 1) 1 2).k ≤ 100 := by rw [k2, k1]; simp
  apply Tells.andThen (piece (fx_loop (m := m) (c := c) hV2 hk3 hl hm) _ rfl)
  rintro fr E3 ⟨oa3, rfl, hV3⟩
  have hk4 := (foldl_ok l _ hV2.ok hm).2
  obtain ⟨E4, oa4, hV4, hr22⟩ := fx_r22 (m := m) (c := c) (i := l.length) (l := l) (tl := [(49, .bool false)]) hV3 (by omega)
  apply Tells.seq (piece hr22 _ rfl)
  have hne := fixW_ne hm
  unfold fixW at hne ⊢
  obtain ⟨a, g, ob, q1, q2, hr23⟩ := fx_r23 (m := m) hV4 hne
  generalize (symW (l.foldl pxW (fieldW (fieldW ⟨0, []⟩ 1 1) 1 2)) lcL flL 256).o = B at *
  apply Tells.seq (piece hr23 _ rfl)
  exact Tells.of (o := ⟨.ret, [(2, .sl a 0 B.length g), (3, .int .i64 0)], E4⟩) ⟨0, rfl⟩ ⟨rfl, a, g, ob, rfl, rfl, q1, q2⟩

theorem dfixed_ev {H : AM.Heap} {a : AV} (ha : payOf H a = some (.pr 3 (l.map pxR))) (hl : l.length ≤ 2000) : ∃ ob, Rw (.pb (fixR l).1) 0 ob ∧ evT X 22 [a] H = some (.tup [.sl H.length 0 (fixR l).1.length 0, .int .i64 (fixR l).2], H ++ [some ob]) := by
  obtain ⟨c, x, hx⟩ := args_pay (C := X) (f := 22) (i := 0) rfl ha (args_nil 1)
  obtain ⟨code, hc, ⟨out, ⟨ho, a2, g, ob, h2, h3, h4, hw⟩, hrun⟩⟩ := fixed_code (m := 0) (c := c) (l := l) hl
  obtain ⟨ob', q1, q2⟩ := Ev1.newB (C := X) (H := H) (evT_below X) (n := (fixR l).1.length) (l := (fixR l).1) (rest := [.int .i64 (fixR l).2]) Try.func22 hc hx rfl (by simp [gtag]) rfl rfl rfl (by
    rw [par22]
    refine ⟨out, ⟨ho, a2, g, ob, ?_, h4, hw⟩, hrun⟩
    show resultsV X out.fr out.H [.tmp 2, .tmp 3] = _
    simp [resultsV, h2, h3])
  exact ⟨ob', q1, evT_eq (by simpa [resultV, noTups] using q2)⟩

end

end Go.Proofs.Yteblpjhkgdpchaa

/- Walks: Stored (of one block). -/
namespace Go.Proofs.Yteblpjhkgdpchaa
open Go.AM
set_option linter.unusedSimpArgs false
set_option linter.unusedVariables false

/-- the stream of one stored block -/
def stoW (b : List UInt8) : Ws := fieldW (fieldW ⟨8, (fieldW ⟨0, []⟩ 1 3).o⟩ (b.length : Nat) 16) (-(b.length : Int) - 1) 16
def stoR (b : List UInt8) : List UInt8 := (stoW b).o ++ b

theorem f13 : (fieldW ⟨0, []⟩ 1 3) = ⟨3, [1]⟩ := by kernel_rfl
theorem bdWs : buildV X 46 [] = some (.agg (.pc [.ro 0 .pn 0, .int .i64 0])) := by kernel_rfl
theorem emBs : emptyRow X 5 = .pb [] := by kernel_rfl

theorem wnot {L : Nat} (h : L ≤ 65535) : IntKind.i64.wrap ((AM.bits .i64 (if IntKind.i64.signed = true then -1 else 9223372036854775807) ^^^ AM.bits .i64 (L : Int)).toNat : Nat) = -(L : Int) - 1 := by
  have e1 : AM.bits .i64 (if IntKind.i64.signed = true then -1 else 9223372036854775807) = BitVec.allOnes 64 := by kernel_rfl
  have e2 : (BitVec.ofInt 64 (L : Int)).toNat = L := by
    rw [BitVec.toNat_ofInt]
    show ((L : Int) % 18446744073709551616).toNat = L
    omega
  have e3 : (AM.bits .i64 (if IntKind.i64.signed = true then -1 else 9223372036854775807) ^^^ AM.bits .i64 (L : Int)).toNat = 18446744073709551615 - L := by
    rw [e1]
    show (BitVec.allOnes 64 ^^^ BitVec.ofInt 64 (L : Int)).toNat = _
    rw [BitVec.allOnes_xor, BitVec.toNat_not, e2]
  rw [e3]
  have e4 : ((18446744073709551615 - L : Nat) : Int) = 18446744073709551615 - (L : Int) := by omega
  rw [e4]
  unfold IntKind.wrap
  simp [IntKind.bits, IntKind.signed]
  omega

section
variable {c : Nat} {b : List UInt8} {E : AM.Heap} {oa : Option Nat} {s : Ws}

def stFr (c : Nat) (b : List UInt8) : AM.Frame := [(0, .ro c (.pb b) 1), (3, .ptr 1 0 0 0), (4, .int .i64 (b.length : Nat)), (5, .int .i64 1)]

set_option maxRecDepth 100000 in
theorem st_r7 {m : Nat} (h : WrV 0 E 1 oa s) (hne : s.o ≠ []) (hl : s.o.length ≤ 1000000) : ∃ E', WrV 0 E' 1 oa ⟨s.o.length * 8, s.o⟩ ∧ ∃ code, ((Try.f13.body).bind (codeAt [1, 1, 0, 0, 0, 1, 1, 1, 1, 0])) = some code ∧ Run X (evT X) 13 m code (stFr c b) E ⟨.normal, stFr c b, E'⟩ := by
  obtain ⟨⟨vo, τ, a1, h0, ho⟩, hn⟩ := id h
  cases oa with
  | none => exact absurd ho.1 hne
  | some a =>
    refine ⟨AM.upd E 1 (some (wrBx ⟨s.o.length * 8, s.o⟩ vo τ)), WrV.set hn a1 (ltAt h0) ho, _, rfl, ?_⟩
    obtain ⟨g, τ2, ob, hτ2, rfl, h3, h4⟩ := ho
    have hg := h4.g
    have w1 : IntKind.i64.wrap ((s.o.length : Int) * 8) = ((s.o.length * 8 : Nat) : Int) := by rw [wrap_i64 (by omega) (by omega)]; omega
    simp only [wrBx, stFr] at h0 ⊢
    generalize s.o.length * 8 = k8 at *
    generalize s.o.length = N at *
    generalize b.length = L at *
    (refine ⟨0, ?_⟩; simp (maxSteps := 2000000) -implicitDefEqProofs [-getElem?_pos, List.getElem?_cons_zero, List.getElem?_cons_succ, go_sem, eqV, plen, loadV, storeV, h0, h3, hg, w1])

set_option maxRecDepth 100000 in
theorem st_r11 {m : Nat} (h : WrV 0 E 1 oa s) (hne : s.o ≠ []) (hl : s.o.length ≤ 1000000) : ∃ E', WrV 0 E' 1 oa ⟨s.o.length * 8, s.o⟩ ∧ ∃ code, ((Try.f13.body).bind (codeAt [1, 1, 0, 0, 0, 1, 1, 1, 1, 1, 1, 1, 1, 0])) = some code ∧ Run X (evT X) 13 m code (stFr c b) E ⟨.normal, stFr c b, E'⟩ := by
  obtain ⟨⟨vo, τ, a1, h0, ho⟩, hn⟩ := id h
  cases oa with
  | none => exact absurd ho.1 hne
  | some a =>
    refine ⟨AM.upd E 1 (some (wrBx ⟨s.o.length * 8, s.o⟩ vo τ)), WrV.set hn a1 (ltAt h0) ho, _, rfl, ?_⟩
    obtain ⟨g, τ2, ob, hτ2, rfl, h3, h4⟩ := ho
    have hg := h4.g
    have w1 : IntKind.i64.wrap ((s.o.length : Int) * 8) = ((s.o.length * 8 : Nat) : Int) := by rw [wrap_i64 (by omega) (by omega)]; omega
    simp only [wrBx, stFr] at h0 ⊢
    generalize s.o.length * 8 = k8 at *
    generalize s.o.length = N at *
    generalize b.length = L at *
    (refine ⟨0, ?_⟩; simp (maxSteps := 2000000) -implicitDefEqProofs [-getElem?_pos, List.getElem?_cons_zero, List.getElem?_cons_succ, go_sem, eqV, plen, loadV, storeV, h0, h3, hg, w1])

set_option maxRecDepth 100000 in
theorem st_r10 {m : Nat} (h : WrV 0 E 1 oa s) (hne : s.o ≠ []) (hl : s.o.length ≤ 1000000) (hb : b.length ≤ 65535) : ∃ E', WrV 0 E' 1 oa ⟨s.k, s.o ++ b⟩ ∧ ∃ code, ((Try.f13.body).bind (codeAt [1, 1, 0, 0, 0, 1, 1, 1, 1, 1, 1, 1, 0])) = some code ∧ Run X (evT X) 13 m code (stFr c b) E ⟨.normal, stFr c b, E'⟩ := by
  obtain ⟨⟨vo, τ, a1, h0, ho⟩, hn⟩ := id h
  cases oa with
  | none => exact absurd ho.1 hne
  | some a =>
    obtain ⟨g, τ2, ob, hτ2, rfl, h3, h4⟩ := ho
    obtain ⟨ob', w1, w2⟩ := app_rwt (C := X) (T := 28) (e := 5) (src := .ro (if c = 0 then 0 else 2) (.pb b) 1) (m := b) und28 und5 size5 bytes5 zok5 h3 h4 (.inl (by simp [srcV, payB, ptag])) (by omega)
    have h0' : (upd E a (some ob'))[1]? = some (some (wrBx s (.sl a 0 s.o.length g) τ)) := neAt h0 (hn a rfl)
    refine ⟨AM.upd (upd E a (some ob')) 1 (some (wrBx ⟨s.k, s.o ++ b⟩ (.sl a 0 (s.o.length + b.length) (g + 1)) τ)), WrV.set hn a1 (ltAt h0') ⟨g + 1, τ2, ob', hτ2, by simp, setAt h3, w1⟩, _, rfl, ?_⟩
    have ht : b.take b.length = b := List.take_length
    have hz : psub (.pb b) 0 b.length = some (.pb b) := by simp [psub]
    simp only [wrBx, stFr] at h0 h0' ⊢
    generalize upd E a (some ob') = E1 at *
    generalize s.o.length + b.length = N2 at *
    generalize s.o.length = N at *
    generalize hL : b.length = L at *
    (refine ⟨0, ?_⟩; simp (maxSteps := 2000000) -implicitDefEqProofs [-getElem?_pos, List.getElem?_cons_zero, List.getElem?_cons_succ, go_sem, eqV, plen, loadV, storeV, h0, h0', w2, sliceV, bound, psub, hL, ht, hz])

theorem bitW_mono (s : Ws) (x : Int) : s.o.length ≤ (bitW s x).o.length := by
  unfold bitW
  simp only [List.length_set]
  split <;> simp
theorem fieldW_mono (s : Ws) (x : Int) : ∀ n, s.o.length ≤ (fieldW s x n).o.length
  | 0 => Nat.le_refl _
  | n + 1 => Nat.le_trans (fieldW_mono s x n) (bitW_mono _ _)

set_option maxRecDepth 100000 in
theorem stored_code' {m : Nat} (hb : b.length ≤ 65535) : ∃ code, Try.f13.body = some code ∧ Tells (Rets fun fr E => ∃ a g ob, getF fr 2 = .sl a 0 (stoR b).length g ∧ E[a]? = some (some ob) ∧ Rw (.pb (stoR b)) g ob) X (evT X) 13 m code [(0, .ro c (.pb b) 1)] [] := by
  refine ⟨_, rfl, ?_⟩
  apply Tells.seq (fr' := [(0, .ro c (.pb b) 1)]) (H' := [some (⟨.pb [], 0, none, 0, true, false, 0⟩ : AM.Obj)])
  · (refine ⟨0, ?_⟩; simp (maxSteps := 2000000) -implicitDefEqProofs [-getElem?_pos, List.getElem?_cons_zero, List.getElem?_cons_succ, go_sem, eqV, plen, loadV, storeV, assignV, rowOf, emBs])
  apply Tells.seq (fr' := [(0, .ro c (.pb b) 1), (3, .ptr 1 0 0 0)]) (H' := [some (⟨.pb [], 0, none, 0, true, false, 0⟩ : AM.Obj), some (wrBx ⟨0, []⟩ (.ro 0 .pn 0) 0)])
  · simp only [wrBx]
    (refine ⟨0, ?_⟩; simp (maxSteps := 2000000) -implicitDefEqProofs [-getElem?_pos, List.getElem?_cons_zero, List.getElem?_cons_succ, go_sem, eqV, plen, loadV, storeV, bdWs, assignV])
  have hV : WrV 0 [some (⟨.pb [], 0, none, 0, true, false, 0⟩ : AM.Obj), some (wrBx ⟨0, []⟩ (.ro 0 .pn 0) 0)] 1 none ⟨0, []⟩ := ⟨⟨_, 0, .inl rfl, rfl, rfl, 0, .inl rfl, rfl⟩, fun a h => by cases h⟩
  generalize [some (⟨.pb [], 0, none, 0, true, false, 0⟩ : AM.Obj), some (wrBx ⟨0, []⟩ (.ro 0 .pn 0) 0)] = E0 at *
  have hI : (b.length : Int) ≤ 65535 := by omega
  refine Tells.blk ?_ (fun o ho => by rw [ho.1]; simp)
  refine Tells.loopP (I := fun k fr E => k = 0 ∧ fr = [(0, .ro c (.pb b) 1), (3, .ptr 1 0 0 0)] ∧ E = E0) ?_ (k := 0) ⟨rfl, rfl, rfl⟩
  rintro k fr E ⟨rfl, rfl, rfl⟩
  suffices hT : Tells (Rets fun fr E => ∃ a g ob, getF fr 2 = .sl a 0 (stoR b).length g ∧ E[a]? = some (some ob) ∧ Rw (.pb (stoR b)) g ob) X (evT X) 13 m _ [(0, .ro c (.pb b) 1), (3, .ptr 1 0 0 0)] E from hT.mono fun o ho => .inr ⟨by rw [ho.1]; simp, ho⟩
  refine Tells.blk ?_ (fun o ho => by rw [ho.1]; simp)
  apply Tells.seq (fr' := [(0, .ro c (.pb b) 1), (3, .ptr 1 0 0 0), (4, .int .i64 (b.length : Nat))]) (H' := E)
  · have hI2 : ¬ (65535 : Int) < (b.length : Int) := by omega
    have hI3 : ¬ 65535 < b.length := by omega
    generalize hL : b.length = L at *
    (refine ⟨0, ?_⟩; simp (maxSteps := 2000000) -implicitDefEqProofs [-getElem?_pos, List.getElem?_cons_zero, List.getElem?_cons_succ, go_sem, eqV, plen, loadV, storeV, minmax, assignV, hI, hI2, hI3, hL])
  apply Tells.seq (fr' := [(0, .ro c (.pb b) 1), (3, .ptr 1 0 0 0), (4, .int .i64 (b.length : Nat)), (5, .int .i64 0)]) (H' := E)
  · generalize hL : b.length = L at *
    (refine ⟨0, ?_⟩; simp (maxSteps := 2000000) -implicitDefEqProofs [-getElem?_pos, List.getElem?_cons_zero, List.getElem?_cons_succ, go_sem, eqV, plen, loadV, storeV, assignV])
  apply Tells.assoc
  apply Tells.seq (fr' := [(0, .ro c (.pb b) 1), (3, .ptr 1 0 0 0), (4, .int .i64 (b.length : Nat)), (5, .int .i64 0), (14, .bool true)]) (H' := E)
  · generalize hL : b.length = L at *
    (refine ⟨0, ?_⟩; simp (maxSteps := 2000000) -implicitDefEqProofs [-getElem?_pos, List.getElem?_cons_zero, List.getElem?_cons_succ, go_sem, eqV, plen, loadV, storeV, hL])
  apply Tells.seq (fr' := stFr c b) (H' := E)
  · refine Run.cond (d := true) (by simp [evalO, getF]) ?_
    simp only [stFr]
    generalize hL : b.length = L at *
    (refine ⟨0, ?_⟩; simp (maxSteps := 2000000) -implicitDefEqProofs [-getElem?_pos, List.getElem?_cons_zero, List.getElem?_cons_succ, go_sem, eqV, plen, loadV, storeV, assignV])
  obtain ⟨E1, oa1, g1, g2, g3⟩ := wfield_ev (x := 1) (I := 3) (n := 3) rfl hV rfl (by simp) (by omega)
  apply Tells.seq (fr' := stFr c b) (H' := E1)
  · simp only [stFr]
    generalize hL : b.length = L at *
    (refine ⟨0, ?_⟩; simp (maxSteps := 2000000) -implicitDefEqProofs [-getElem?_pos, List.getElem?_cons_zero, List.getElem?_cons_succ, go_sem, eqV, plen, loadV, storeV, g1])
  have ho1 : (fieldW ⟨0, []⟩ 1 3).o = [1] := by rw [f13]
  obtain ⟨E2, hV2, hr7⟩ := st_r7 (m := m) (c := c) (b := b) g2 (by rw [ho1]; simp) (by rw [ho1]; simp)
  apply Tells.seq (piece hr7 _ rfl)
  have e8 : (fieldW ⟨0, []⟩ 1 3).o.length * 8 = 8 := by rw [ho1]; rfl
  rw [e8] at hV2
  have hok2 : WsOk ⟨8, (fieldW ⟨0, []⟩ 1 3).o⟩ := by unfold WsOk; rw [ho1]; rfl
  obtain ⟨E3, oa3, g4, g5, g6⟩ := wfield_ev (x := (b.length : Nat)) (I := 16) (n := 16) rfl hV2 hok2 (by simp) (by omega)
  have k3 := fieldW_ok (x := (b.length : Nat)) hok2 16
  apply Tells.seq (fr' := stFr c b) (H' := E3)
  · simp only [stFr]
    generalize hL : b.length = L at *
    (refine ⟨0, ?_⟩; simp (maxSteps := 2000000) -implicitDefEqProofs [-getElem?_pos, List.getElem?_cons_zero, List.getElem?_cons_succ, go_sem, eqV, plen, loadV, storeV, g4])
  obtain ⟨E4, oa4, g7, g8, g9⟩ := wfield_ev (x := -(b.length : Int) - 1) (I := 16) (n := 16) rfl g5 k3.1 (by rw [k3.2]; simp) (by omega)
  have k4 := fieldW_ok (x := -(b.length : Int) - 1) k3.1 16
  apply Tells.seq (fr' := stFr c b) (H' := E4)
  · simp only [stFr]
    have wx : IntKind.i64.wrap (-(b.length : Int) - 1) = -(b.length : Int) - 1 := by rw [wrap_i64 (by omega) (by omega)]
    have wx2 : IntKind.i64.wrap (-1 - (b.length : Int)) = -(b.length : Int) - 1 := by rw [wrap_i64 (by omega) (by omega)]; omega
    have wn := wnot hb
    simp only [go_sem] at wn
    generalize hL : b.length = L at *
    (refine ⟨0, ?_⟩; simp (maxSteps := 2000000) -implicitDefEqProofs [-getElem?_pos, List.getElem?_cons_zero, List.getElem?_cons_succ, go_sem, eqV, plen, loadV, storeV, g7, wn])
  have h1le : 1 ≤ (stoW b).o.length := by
    have m1 := fieldW_mono ⟨8, (fieldW ⟨0, []⟩ 1 3).o⟩ (b.length : Nat) 16
    have m2 := fieldW_mono (fieldW ⟨8, (fieldW ⟨0, []⟩ 1 3).o⟩ (b.length : Nat) 16) (-(b.length : Int) - 1) 16
    have m0 : (fieldW ⟨0, []⟩ 1 3).o.length = 1 := by rw [ho1]; rfl
    unfold stoW
    simp only at m1 m2
    omega
  have hk5 : (stoW b).o.length = 5 := by
    have := k4.1
    unfold WsOk at this
    unfold stoW
    rw [this, k4.2, k3.2]
    rfl
  have hne : (stoW b).o ≠ [] := fun e => by rw [e] at h1le; simp at h1le
  have g8' : WrV 0 E4 1 oa4 (stoW b) := g8
  obtain ⟨E5, hV5, hr10⟩ := st_r10 (m := m) (c := c) (b := b) g8' hne (by omega) hb
  apply Tells.seq (piece hr10 _ rfl)
  obtain ⟨E6, hV6, hr11⟩ := st_r11 (m := m) (c := c) (b := b) hV5 (by simp [hne]) (by simp; omega)
  apply Tells.seq (piece hr11 _ rfl)
  simp only at hV6
  have hr12 : ∃ v, ∃ code, ((Try.f13.body).bind (codeAt [1, 1, 0, 0, 0, 1, 1, 1, 1, 1, 1, 1, 1, 1, 0])) = some code ∧ Run X (evT X) 13 m code (stFr c b) E6 ⟨.normal, [(0, v), (3, .ptr 1 0 0 0), (5, .int .i64 1)], E6⟩ := by
    refine ⟨.ro (if c = 0 then 0 else c) (.pb []) 1, _, rfl, ?_⟩
    have hd : b.drop b.length = [] := List.drop_of_length_le (Nat.le_refl _)
    simp only [stFr]
    generalize hL : b.length = L at *
    (refine ⟨0, ?_⟩; simp (maxSteps := 2000000) -implicitDefEqProofs [-getElem?_pos, List.getElem?_cons_zero, List.getElem?_cons_succ, go_sem, eqV, plen, loadV, storeV, sliceV, bound, psub, hL, hd, assignV])
  obtain ⟨v12, hr12⟩ := hr12
  apply Tells.seq (piece hr12 _ rfl)
  apply Tells.seq (fr' := [(0, v12), (3, .ptr 1 0 0 0), (58, .bool true)]) (H' := E6)
  · (refine ⟨0, ?_⟩; simp (maxSteps := 2000000) -implicitDefEqProofs [-getElem?_pos, List.getElem?_cons_zero, List.getElem?_cons_succ, go_sem, eqV, plen, loadV, storeV])
  refine Tells.condT (by simp [evalO, getF]) ?_
  obtain ⟨⟨vo, τ, a1, h0, ho⟩, hn⟩ := id hV6
  cases oa4 with
  | none => exact absurd ho.1 (by simp [hne])
  | some a =>
    obtain ⟨g, τ2, ob, hτ2, rfl, h3, h4⟩ := ho
    have ht : τ2 = 0 := hτ2.elim id id
    have hst : (stoW b).o ++ b = stoR b := rfl
    simp only [hst] at h0 h3 h4
    refine Tells.of (o := ⟨.ret, [(2, .sl a 0 (stoR b).length g)], E6⟩) ?_ ⟨rfl, a, g, ob, rfl, h3, ⟨h4.p, h4.g, h4.row, h4.ids, by rw [h4.tg, ht]⟩⟩
    refine ⟨0, ?_⟩
    simp only [wrBx] at h0
    generalize (stoR b).length = N at *
    simp (maxSteps := 2000000) -implicitDefEqProofs [-getElem?_pos, List.getElem?_cons_zero, List.getElem?_cons_succ, go_sem, eqV, plen, loadV, storeV, h0, assignV]

theorem dstored_ev {H : AM.Heap} {a : AV} (ha : payOf H a = some (.pb b)) (hb : b.length ≤ 65535) : ∃ ob, Rw (.pb (stoR b)) 0 ob ∧ evT X 13 [a] H = some (.sl H.length 0 (stoR b).length 0, H ++ [some ob]) := by
  obtain ⟨c, x, hx⟩ := args_pay (C := X) (f := 13) (i := 0) rfl ha (args_nil 1)
  obtain ⟨code, hc, ⟨out, ⟨ho, a2, g, ob, h2, h4, hw⟩, hrun⟩⟩ := stored_code' (m := 0) (c := c) hb
  obtain ⟨ob', q1, q2⟩ := Ev1.newB (C := X) (H := H) (evT_below X) (n := (stoR b).length) (l := stoR b) (rest := []) Try.func13 hc hx rfl (by simp [gtag]) rfl rfl rfl (by
    rw [par13]
    refine ⟨out, ⟨ho, a2, g, ob, ?_, h4, hw⟩, hrun⟩
    show resultsV X out.fr out.H [.tmp 2] = _
    simp [resultsV, h2])
  exact ⟨ob', q1, evT_eq q2⟩

end

end Go.Proofs.Yteblpjhkgdpchaa

/- Walks, events: Deflate. -/
namespace Go.Proofs.Yteblpjhkgdpchaa
open Go.AM
set_option linter.unusedSimpArgs false
set_option linter.unusedVariables false

def toPx (x : Pc) : Px := ⟨(x.len : Nat), (x.dist : Nat), x.byte⟩
theorem map_px (L : List Pc) : (L.map toPx).map pxR = L.map pcR := by
  rw [List.map_map]
  rfl
/-- the pieces of bytes -/
def pcsR (b : List UInt8) : List Px := (pcsF b b.length [] 0).map toPx
def deflR (b : List UInt8) : List UInt8 := if (stoR b).length < (fixR (pcsR b)).1.length then stoR b else (fixR (pcsR b)).1

theorem pcsF_len (b : List UInt8) : ∀ (f : Nat) (M : Pls) (p : Nat), (pcsF b f M p).length ≤ f
  | 0, _, _ => Nat.le_refl _
  | f + 1, M, p => by
    unfold pcsF
    split
    · have := pcsF_len b f (ntUp b M p (max 1 (pieceB b M p).len)) (p + max 1 (pieceB b M p).len)
      simp
      omega
    · simp

theorem pay_pr {H : AM.Heap} {o g es : Nat} {ob : AM.Obj} {l : List AV} (ho : H[o]? = some (some ob)) (hw : Rw (.pr es l) g ob) : payOf H (.sl o 0 l.length g) = some (.pr es l) := by
  simp [payOf, live, ho, hw.g, hw.ids, hw.p, psub]

section
variable {c : Nat} {b : List UInt8}

set_option maxRecDepth 100000 in
theorem deflate_code {m : Nat} (hb : b.length ≤ 1400) : ∃ code, Try.f12.body = some code ∧ Tells (Rets fun fr E => ∃ a g ob, getF fr 2 = .sl a 0 (deflR b).length g ∧ E[a]? = some (some ob) ∧ Rw (.pb (deflR b)) g ob) X (evT X) 12 m code [(0, .ro c (.pb b) 1)] [] := by
  refine ⟨_, rfl, ?_⟩
  apply Tells.seq (fr' := [(0, .ro c (.pb b) 1)]) (H' := [some (⟨.pb [], 0, none, 0, true, false, 0⟩ : AM.Obj)])
  · (refine ⟨0, ?_⟩; simp (maxSteps := 2000000) -implicitDefEqProofs [-getElem?_pos, List.getElem?_cons_zero, List.getElem?_cons_succ, go_sem, eqV, plen, loadV, storeV, assignV, rowOf, emBs])
  obtain ⟨ob1, w1, e1⟩ := pieces_ev (H := [some (⟨.pb [], 0, none, 0, true, false, 0⟩ : AM.Obj)]) (a := .ro c (.pb b) 1) (b := b) rfl hb
  have hlen := pcsF_len b b.length [] 0
  obtain ⟨ob2, w2, e2⟩ := dfixed_ev (H := [some (⟨.pb [], 0, none, 0, true, false, 0⟩ : AM.Obj), some ob1]) (a := .sl 1 0 (pcsF b b.length [] 0).length 0) (l := pcsR b) (by
    unfold pcsR
    rw [map_px]
    have := pay_pr (H := [some (⟨.pb [], 0, none, 0, true, false, 0⟩ : AM.Obj), some ob1]) (o := 1) rfl w1
    rwa [List.length_map] at this) (by unfold pcsR; rw [List.length_map]; omega)
  obtain ⟨ob3, w3, e3⟩ := dstored_ev (H := [some (⟨.pb [], 0, none, 0, true, false, 0⟩ : AM.Obj), some ob1, some ob2]) (a := .ro c (.pb b) 1) (b := b) rfl (by omega)
  simp only [List.length_cons, List.length_nil, List.cons_append, List.nil_append] at e1 e2 e3
  unfold deflR
  have g2 := w2.g; have g3 := w3.g
  generalize hr0 : some (⟨.pb [], 0, none, 0, true, false, 0⟩ : AM.Obj) = r0 at *
  apply Tells.seq (fr' := [(0, .ro c (.pb b) 1), (3, .sl 2 0 (fixR (pcsR b)).1.length 0)]) (H' := [r0, some ob1, some ob2])
  · generalize (pcsF b b.length [] 0).length = N1 at *
    generalize (fixR (pcsR b)).1.length = N2 at *
    generalize (fixR (pcsR b)).2 = er at *
    (refine ⟨0, ?_⟩; simp (maxSteps := 2000000) -implicitDefEqProofs [-getElem?_pos, List.getElem?_cons_zero, List.getElem?_cons_succ, go_sem, eqV, plen, loadV, storeV, e1, e2, assignV])
  apply Tells.assoc
  apply Tells.seq (fr' := [(3, .sl 2 0 (fixR (pcsR b)).1.length 0), (5, .sl 3 0 (stoR b).length 0)]) (H' := [r0, some ob1, some ob2, some ob3])
  · generalize (fixR (pcsR b)).1.length = N2 at *
    generalize (stoR b).length = N3 at *
    (refine ⟨0, ?_⟩; simp (maxSteps := 2000000) -implicitDefEqProofs [-getElem?_pos, List.getElem?_cons_zero, List.getElem?_cons_succ, go_sem, eqV, plen, loadV, storeV, e3, assignV])
  apply Tells.assoc
  by_cases hlt : (stoR b).length < (fixR (pcsR b)).1.length
  · rw [if_pos hlt]
    have hI : ((stoR b).length : Int) < ((fixR (pcsR b)).1.length : Int) := by omega
    refine Tells.of (o := ⟨.ret, [(2, .sl 3 0 (stoR b).length 0)], [r0, some ob1, some ob2, some ob3]⟩) ?_ ⟨rfl, 3, 0, ob3, rfl, rfl, w3⟩
    generalize (fixR (pcsR b)).1.length = N2 at *
    generalize (stoR b).length = N3 at *
    apply Run.seq (fr' := [(3, .sl 2 0 N2 0), (5, .sl 3 0 N3 0), (18, .bool true)]) (H' := [r0, some ob1, some ob2, some ob3])
    · (refine ⟨0, ?_⟩; simp (maxSteps := 2000000) -implicitDefEqProofs [-getElem?_pos, List.getElem?_cons_zero, List.getElem?_cons_succ, go_sem, eqV, plen, loadV, storeV, g2, g3, hI, hlt])
    · refine ⟨0, ?_⟩
      simp (maxSteps := 2000000) -implicitDefEqProofs [-getElem?_pos, List.getElem?_cons_zero, List.getElem?_cons_succ, go_sem, eqV, plen, loadV, storeV, assignV]
  · rw [if_neg hlt]
    have hI : ¬ ((stoR b).length : Int) < ((fixR (pcsR b)).1.length : Int) := by omega
    refine Tells.of (o := ⟨.ret, [(2, .sl 2 0 (fixR (pcsR b)).1.length 0)], [r0, some ob1, some ob2, some ob3]⟩) ?_ ⟨rfl, 2, 0, ob2, rfl, rfl, w2⟩
    generalize (fixR (pcsR b)).1.length = N2 at *
    generalize (stoR b).length = N3 at *
    apply Run.seq (fr' := [(3, .sl 2 0 N2 0), (5, .sl 3 0 N3 0), (18, .bool false)]) (H' := [r0, some ob1, some ob2, some ob3])
    · (refine ⟨0, ?_⟩; simp (maxSteps := 2000000) -implicitDefEqProofs [-getElem?_pos, List.getElem?_cons_zero, List.getElem?_cons_succ, go_sem, eqV, plen, loadV, storeV, g2, g3, hI, hlt])
    · refine ⟨0, ?_⟩
      simp (maxSteps := 2000000) -implicitDefEqProofs [-getElem?_pos, List.getElem?_cons_zero, List.getElem?_cons_succ, go_sem, eqV, plen, loadV, storeV, assignV]

theorem deflate_ev {H : AM.Heap} {a : AV} (ha : payOf H a = some (.pb b)) (hb : b.length ≤ 1400) : ∃ ob, Rw (.pb (deflR b)) 0 ob ∧ evT X 12 [a] H = some (.sl H.length 0 (deflR b).length 0, H ++ [some ob]) := by
  obtain ⟨c, x, hx⟩ := args_pay (C := X) (f := 12) (i := 0) rfl ha (args_nil 1)
  obtain ⟨code, hc, ⟨out, ⟨ho, a2, g, ob, h2, h4, hw⟩, hrun⟩⟩ := deflate_code (m := 0) (c := c) hb
  obtain ⟨ob', q1, q2⟩ := Ev1.newB (C := X) (H := H) (evT_below X) (n := (deflR b).length) (l := deflR b) (rest := []) Try.func12 hc hx rfl (by simp [gtag]) rfl rfl rfl (by
    rw [par12]
    refine ⟨out, ⟨ho, a2, g, ob, ?_, h4, hw⟩, hrun⟩
    show resultsV X out.fr out.H [.tmp 2] = _
    simp [resultsV, h2])
  exact ⟨ob', q1, evT_eq q2⟩

end

end Go.Proofs.Yteblpjhkgdpchaa

/- lives; SameBytes. -/
namespace Go.Proofs.Yteblpjhkgdpchaa
open Go.AM
set_option linter.unusedSimpArgs false
set_option linter.unusedVariables false

set_option maxRecDepth 100000 in
theorem def_a : deflR [97, 97, 97, 97, 97, 97, 97] = [75, 132, 0, 0] := by kernel_rfl
set_option maxRecDepth 100000 in
theorem sto_b : stoR [97, 98] = [1, 2, 0, 253, 255, 97, 98] := by kernel_rfl

set_option maxRecDepth 100000 in
theorem sameB_code (c c2 : Nat) (a b : List UInt8) : ∃ code, Try.f11.body = some code ∧
    Run X (evT X) 11 0 code [(0, .ro c (.pb a) 1), (1, .ro c2 (.pb b) 2)] [] ⟨.ret, [(4, .bool (a == b))], []⟩ := by
  refine ⟨_, rfl, 0, ?_⟩
  simp (maxSteps := 2000000) -implicitDefEqProofs [-getElem?_pos, List.getElem?_cons_zero, List.getElem?_cons_succ, go_sem, eqV, plen, loadV, storeV, readSl, strOp]

theorem coB {p : AV} {b : List UInt8} {c t : Nat} {r : List AV} {ts : List TypeId} (hp : PB p b) : coerce X (.ro c p t :: r) (28 :: ts) = .ro c (.pb b) t :: coerce X r ts := by
  rcases hp with rfl | ⟨rfl, rfl⟩
  · simp [coerce]
  · simp [coerce, emptyRow]

theorem sameB_ev {H : AM.Heap} {a a2 : AV} {l m : List UInt8} (h : Byt H a l) (h2 : Byt H a2 m) : evT X 11 [a, a2] H = some (.bool (l == m), H) := by
  obtain ⟨c2, p2, x2, hp2, _, hx2⟩ := args_byt (C := X) (f := 11) (i := 1) rfl h2 (args_nil 2)
  obtain ⟨c, p, x, hp, _, hx⟩ := args_byt (C := X) (f := 11) (i := 0) rfl h hx2
  obtain ⟨code, hcode, hr⟩ := sameB_code c c2 l m
  refine evT_eq (Ev1.toldP (l := [.bool (l == m)]) (evT_below X) Try.func11 hcode hx (by simp [idsL, ids, hp.ids, hp2.ids]) (by simp [gtag]) rfl rfl rfl ?_)
  rw [par11, coB hp, coB hp2]
  exact ⟨_, ⟨rfl, rfl⟩, hr⟩


theorem bs_a7 (H : AM.Heap) : buildSliceV X H 28 7 [(0, .int .u8 97), (1, .int .u8 97), (2, .int .u8 97), (3, .int .u8 97), (4, .int .u8 97), (5, .int .u8 97), (6, .int .u8 97)] = some (.ro 1 (.pb [97, 97, 97, 97, 97, 97, 97]) 0, H) := by kernel_rfl
theorem bs_d4 (H : AM.Heap) : buildSliceV X H 28 4 [(0, .int .u8 75), (1, .int .u8 132), (2, .int .u8 0), (3, .int .u8 0)] = some (.ro 1 (.pb [75, 132, 0, 0]) 0, H) := by kernel_rfl
theorem bs_b2 (H : AM.Heap) : buildSliceV X H 28 2 [(0, .int .u8 97), (1, .int .u8 98)] = some (.ro 1 (.pb [97, 98]) 0, H) := by kernel_rfl
theorem bs_s7 (H : AM.Heap) : buildSliceV X H 28 7 [(0, .int .u8 1), (1, .int .u8 2), (2, .int .u8 0), (3, .int .u8 253), (4, .int .u8 255), (5, .int .u8 97), (6, .int .u8 98)] = some (.ro 1 (.pb [1, 2, 0, 253, 255, 97, 98]) 0, H) := by kernel_rfl

set_option maxRecDepth 100000 in
theorem lives_code : ∃ code, Try.f15.body = some code ∧ Tells (Rets fun fr H => resultsV X fr H Try.f15.results.toList = some [.bool true]) X (evT X) 15 0 code [] [] := by
  refine ⟨_, rfl, ?_⟩
  apply Tells.seq (fr' := []) (H' := [])
  · (refine ⟨0, ?_⟩; simp (maxSteps := 2000000) -implicitDefEqProofs [-getElem?_pos, List.getElem?_cons_zero, List.getElem?_cons_succ, go_sem, eqV, plen, loadV, storeV])
  obtain ⟨ob1, w1, e1⟩ := deflate_ev (H := []) (a := .ro 1 (.pb [97, 97, 97, 97, 97, 97, 97]) 0) (b := [97, 97, 97, 97, 97, 97, 97]) rfl (by simp)
  rw [def_a] at w1 e1
  have s1 := sameB_ev (H := [some ob1]) (a := .sl 0 0 4 0) (a2 := .ro 1 (.pb [75, 132, 0, 0]) 0) (Byt.whole (l := [75, 132, 0, 0]) rfl w1) (Byt.ro (.inl rfl) (fun h => by omega))
  obtain ⟨ob2, w2, e2⟩ := dstored_ev (H := [some ob1]) (a := .ro 1 (.pb [97, 98]) 0) (b := [97, 98]) rfl (by simp)
  rw [sto_b] at w2 e2
  have s2 := sameB_ev (H := [some ob1, some ob2]) (a := .sl 1 0 7 0) (a2 := .ro 1 (.pb [1, 2, 0, 253, 255, 97, 98]) 0) (Byt.whole (l := [1, 2, 0, 253, 255, 97, 98]) rfl w2) (Byt.ro (.inl rfl) (fun h => by omega))
  rw [beq_self_eq_true] at s1 s2
  simp only [List.length_cons, List.length_nil, List.nil_append, List.cons_append] at e1 e2
  refine Tells.of (o := ⟨.ret, [(0, .bool true)], [some ob1, some ob2]⟩) ?_ ⟨rfl, rfl⟩
  refine ⟨0, ?_⟩
  simp (maxSteps := 2000000) -implicitDefEqProofs [-getElem?_pos, List.getElem?_cons_zero, List.getElem?_cons_succ, go_sem, eqV, plen, loadV, storeV, bs_a7, bs_d4, bs_b2, bs_s7, e1, e2, s1, s2, assignV]

theorem lives_ev (H : AM.Heap) : evT X 15 [] H = some (.bool true, H) := by
  obtain ⟨code, hc, ht⟩ := lives_code
  exact evT_eq (Ev1.toldP (l := [.bool true]) (evT_below X) Try.func15 hc rfl rfl (by simp [gtag]) rfl rfl rfl ht)

end Go.Proofs.Yteblpjhkgdpchaa

/- Walks: the law DeflateGreedy: how many bytes are alike. -/
namespace Go.Proofs.Yteblpjhkgdpchaa
open Go.AM
set_option linter.unusedSimpArgs false
set_option linter.unusedVariables false

section
variable {c : Nat} {b : List UInt8} {L : List Pc}

def grFr (c : Nat) (b : List UInt8) (o N p i n back k : Nat) : AM.Frame := [(0, .ro c (.pb b) 1), (3, .sl o 0 N 0), (4, .int .i64 (p : Nat)), (5, .int .i64 (i : Nat)), (6, .int .i64 (n : Nat)), (7, .int .i64 (back : Nat)), (8, .int .i64 (k : Nat))]

set_option maxRecDepth 100000 in
theorem gr_r17 {m o N p i n back k : Nat} {E : AM.Heap} (h1 : 1 ≤ back) (h2 : back ≤ p) (hk : k ≤ 258) (hb : b.length ≤ 100000) (hp : p ≤ 100000) : ∃ code, ((Try.f5.body).bind (codeAt [1, 1, 1, 1, 1, 0, 1, 0, 0, 1, 0, 0, 1, 1, 0, 1, 0, 0, 1, 0, 0, 1, 0, 0, 0, 0, 0])) = some code ∧ Run X (evT X) 5 m code (grFr c b o N p i n back k) E ⟨.normal, grFr c b o N p i n back k ++ [(85, .bool (decide (k < 258 ∧ p + k < b.length ∧ b[p - back + k]? = b[p + k]?)))], E⟩ := by
  refine ⟨_, rfl, ?_⟩
  simp only [grFr]
  by_cases a1 : k < 258
  · have a1I : (k : Int) < 258 := by omega
    have w1 : IntKind.i64.wrap ((p : Int) + (k : Int)) = ((p + k : Nat) : Int) := by rw [wrap_i64 (by omega) (by omega)]; omega
    by_cases a2 : p + k < b.length
    · have a2I : ((p + k : Nat) : Int) < (b.length : Int) := by omega
      have w2 : IntKind.i64.wrap (((p + k : Nat) : Int) - (back : Int)) = ((p - back + k : Nat) : Int) := by rw [wrap_i64 (by omega) (by omega)]; omega
      have a3 : p - back + k < b.length := by omega
      have a3I : ((p - back + k : Nat) : Int) < (b.length : Int) := by omega
      obtain ⟨x, hx⟩ : ∃ x, b[p - back + k]? = some x := ⟨_, List.getElem?_eq_getElem a3⟩
      obtain ⟨y, hy⟩ : ∃ y, b[p + k]? = some y := ⟨_, List.getElem?_eq_getElem a2⟩
      rw [hx, hy]
      by_cases hxy : x = y
      · subst hxy
        rw [show decide (k < 258 ∧ p + k < b.length ∧ some x = some x) = true by simp [a1, a2]]
        generalize p + k = pk at *
        generalize p - back + k = ik at *
        (refine ⟨0, ?_⟩; simp (maxSteps := 2000000) -implicitDefEqProofs [-getElem?_pos, List.getElem?_cons_zero, List.getElem?_cons_succ, go_sem, eqV, plen, loadV, storeV, a1, a1I, w1, w2, a2, a2I, a3, a3I, hx, hy])
      · rw [show decide (k < 258 ∧ p + k < b.length ∧ some x = some y) = false by simp [hxy]]
        have hxI : ¬ (y.toNat : Int) = (x.toNat : Int) := fun h => hxy (UInt8.toNat_inj.1 (by omega))
        have hxN : ¬ y.toNat = x.toNat := fun h => hxy (UInt8.toNat_inj.1 h.symm)
        have hxU : ¬ y = x := fun h => hxy h.symm
        generalize p + k = pk at *
        generalize p - back + k = ik at *
        (refine ⟨0, ?_⟩; simp (maxSteps := 2000000) -implicitDefEqProofs [-getElem?_pos, List.getElem?_cons_zero, List.getElem?_cons_succ, go_sem, eqV, plen, loadV, storeV, a1, a1I, w1, w2, a2, a2I, a3, a3I, hx, hy, hxI, hxN, hxU])
    · have a2I : ¬ ((p + k : Nat) : Int) < (b.length : Int) := by omega
      rw [show decide (k < 258 ∧ p + k < b.length ∧ b[p - back + k]? = b[p + k]?) = false by simp [a2]]
      generalize p + k = pk at *
      (refine ⟨0, ?_⟩; simp (maxSteps := 2000000) -implicitDefEqProofs [-getElem?_pos, List.getElem?_cons_zero, List.getElem?_cons_succ, go_sem, eqV, plen, loadV, storeV, a1, a1I, w1, a2, a2I])
  · have a1I : ¬ (k : Int) < 258 := by omega
    rw [show decide (k < 258 ∧ p + k < b.length ∧ b[p - back + k]? = b[p + k]?) = false by simp [a1]]
    (refine ⟨0, ?_⟩; simp (maxSteps := 2000000) -implicitDefEqProofs [-getElem?_pos, List.getElem?_cons_zero, List.getElem?_cons_succ, go_sem, eqV, plen, loadV, storeV, a1, a1I])

set_option maxRecDepth 100000 in
theorem gr_alike {m o N p i n back : Nat} {E : AM.Heap} (h1 : 1 ≤ back) (h2 : back ≤ p) (hb : b.length ≤ 100000) (hp : p ≤ 100000) : ∃ code, ((Try.f5.body).bind (codeAt [1, 1, 1, 1, 1, 0, 1, 0, 0, 1, 0, 0, 1, 1, 0, 1, 0, 0, 1, 0, 0, 1, 0])) = some code ∧ Run X (evT X) 5 m code (grFr c b o N p i n back 0) E ⟨.normal, grFr c b o N p i n back (sameB b (p - back) p 258 0) ++ [(85, .bool false)], E⟩ := by
  refine ⟨_, rfl, ?_⟩
  suffices hT : Tells (Goes fun fr H => fr = grFr c b o N p i n back (sameB b (p - back) p 258 0) ++ [(85, .bool false)] ∧ H = E) X (evT X) 5 m _ (grFr c b o N p i n back 0) E by
    obtain ⟨⟨ex, fr, H⟩, ⟨he, hf, hH⟩, hr⟩ := hT
    simp only at he hf hH
    subst he hf hH
    exact hr
  apply Tells.block
  refine Tells.loop (σ := Nat) (fun k => k ≤ 258 ∧ sameB b (p - back) p (258 - k) k = sameB b (p - back) p 258 0) (fun k => grFr c b o N p i n back k) (fun _ => E) (fun k => 258 - k) ?_ 0 ⟨by omega, rfl⟩
  rintro k ⟨hk, he⟩
  have h17 := gr_r17 (m := m) (c := c) (b := b) (o := o) (N := N) (p := p) (i := i) (n := n) (back := back) (k := k) (E := E) h1 h2 hk hb hp
  by_cases hc : k < 258 ∧ p + k < b.length ∧ b[p - back + k]? = b[p + k]?
  · left
    refine ⟨k + 1, ⟨by omega, by rw [← sameB_more hc]; exact he⟩, ?_, by omega⟩
    rw [decide_eq_true hc] at h17
    apply Run.seq (fr' := grFr c b o N p i n back k ++ [(85, .bool true)]) (H' := E)
    · apply Run.seq (piece h17 _ rfl)
      exact Run.cond (d := true) (by simp [grFr, evalO, getF]) ⟨0, rfl⟩
    · apply Run.block
      · have w1 : IntKind.i64.wrap ((k : Int) + 1) = ((k + 1 : Nat) : Int) := by rw [wrap_i64 (by omega) (by omega)]; omega
        simp only [grFr]
        (refine ⟨0, ?_⟩; simp (maxSteps := 2000000) -implicitDefEqProofs [-getElem?_pos, List.getElem?_cons_zero, List.getElem?_cons_succ, go_sem, eqV, plen, loadV, storeV, w1, assignV])
      · simp
  · right
    rw [decide_eq_false hc] at h17
    refine ⟨⟨.exit 4, grFr c b o N p i n back k ++ [(85, .bool false)], E⟩, ⟨rfl, by rw [← he, sameB_end hc], rfl⟩, by simp, ?_⟩
    refine Run.seq_out ?_ (by simp)
    apply Run.seq (piece h17 _ rfl)
    exact Run.cond (d := false) (by simp [grFr, evalO, getF]) ⟨0, rfl⟩

end

end Go.Proofs.Yteblpjhkgdpchaa

/- Walks: the law DeflateGreedy: a place looked at. -/
namespace Go.Proofs.Yteblpjhkgdpchaa
open Go.AM
set_option linter.unusedSimpArgs false
set_option linter.unusedVariables false

section
variable {c : Nat} {b : List UInt8} {L : List Pc}

def grF7 (c : Nat) (b : List UInt8) (o N p i n back : Nat) : AM.Frame := [(0, .ro c (.pb b) 1), (3, .sl o 0 N 0), (4, .int .i64 (p : Nat)), (5, .int .i64 (i : Nat)), (6, .int .i64 (n : Nat)), (7, .int .i64 (back : Nat))]

set_option maxRecDepth 100000 in
theorem gr_r19 {m o p i n back k : Nat} {x : Pc} {ob : AM.Obj} {E : AM.Heap} (ho : E[o]? = some (some ob)) (hw : Rw (.pr 3 (L.map pcR)) 0 ob) (hx : L[i]? = some x) (hL : L.length ≤ 100000) (hg : 3 ≤ k → k ≤ x.len ∧ (k = x.len → x.dist ≤ back)) :
    ∃ code, ((Try.f5.body).bind (codeAt [1, 1, 1, 1, 1, 0, 1, 0, 0, 1, 0, 0, 1, 1, 0, 1, 0, 0, 1, 0, 0, 1, 1, 0])) = some code ∧ Run X (evT X) 5 m code (grFr c b o L.length p i n back k ++ [(85, .bool false)]) E ⟨.normal, grF7 c b o L.length p i n back ++ [(116, .bool false)], E⟩ := by
  refine ⟨_, rfl, ?_⟩
  have q1 := hw.p; have q2 := hw.g; have q4 := hw.ids; have q5 := hw.tg
  have hx' : (L.map pcR)[i]? = some (pcR x) := by rw [List.getElem?_map, hx]; rfl
  have hi := ltAt hx
  have hiI : (i : Int) < (L.length : Int) := by omega
  simp only [grFr, grF7, pcR] at hx' q1 ⊢
  by_cases h3 : 3 ≤ k
  · have h3I : (3 : Int) ≤ (k : Int) := by omega
    obtain ⟨g1, g2⟩ := hg h3
    have n1 : ¬ (x.len : Int) < (k : Int) := by omega
    have n1N : ¬ x.len < k := by omega
    by_cases he : k = x.len
    · have g3 := g2 he
      have n2 : ¬ (back : Int) < (x.dist : Int) := by omega
      have n2N : ¬ back < x.dist := by omega
      have heI : (k : Int) = (x.len : Int) := by omega
      generalize L.map pcR = R at *
      generalize L.length = N at *
      rw [← he] at hx' n1 n1N
      (refine ⟨0, ?_⟩; simp (maxSteps := 2000000) -implicitDefEqProofs [-getElem?_pos, List.getElem?_cons_zero, List.getElem?_cons_succ, go_sem, eqV, plen, loadV, storeV, retag, ho, q1, q2, q4, q5, hx', hiI, hi, h3, h3I, n1, n1N, n2, n2N])
    · have neI : ¬ (k : Int) = (x.len : Int) := by omega
      have neb : ((k : Int) == (x.len : Int)) = false := by simpa using neI
      generalize L.map pcR = R at *
      generalize L.length = N at *
      (refine ⟨0, ?_⟩; simp (maxSteps := 2000000) -implicitDefEqProofs [-getElem?_pos, List.getElem?_cons_zero, List.getElem?_cons_succ, go_sem, eqV, plen, loadV, storeV, retag, ho, q1, q2, q4, q5, hx', hiI, hi, h3, h3I, n1, n1N, neI, neb, he])
  · have h3I : ¬ (3 : Int) ≤ (k : Int) := by omega
    generalize L.length = N at *
    (refine ⟨0, ?_⟩; simp (maxSteps := 2000000) -implicitDefEqProofs [-getElem?_pos, List.getElem?_cons_zero, List.getElem?_cons_succ, go_sem, eqV, plen, loadV, storeV, h3, h3I])

set_option maxRecDepth 100000 in
/-- all places below are looked at -/
theorem gr_backs {m o p i n : Nat} {x : Pc} {ob : AM.Obj} {E : AM.Heap} (ho : E[o]? = some (some ob)) (hw : Rw (.pr 3 (L.map pcR)) 0 ob) (hx : L[i]? = some x) (hL : L.length ≤ 100000) (hb : b.length ≤ 100000) (hp : p ≤ 100000)
    (hg : ∀ back, 1 ≤ back → back ≤ p → 3 ≤ sameB b (p - back) p 258 0 → sameB b (p - back) p 258 0 ≤ x.len ∧ (sameB b (p - back) p 258 0 = x.len → x.dist ≤ back)) :
    ∃ code, ((Try.f5.body).bind (codeAt [1, 1, 1, 1, 1, 0, 1, 0, 0, 1, 0, 0, 1, 1, 0, 1])) = some code ∧ Run X (evT X) 5 m code (grF7 c b o L.length p i n 1) E ⟨.normal, grF7 c b o L.length p i n (p + 1) ++ [(56, .bool false)], E⟩ := by
  refine ⟨_, rfl, ?_⟩
  suffices hT : Tells (Goes fun fr H => fr = grF7 c b o L.length p i n (p + 1) ++ [(56, .bool false)] ∧ H = E) X (evT X) 5 m _ (grF7 c b o L.length p i n 1) E by
    obtain ⟨⟨ex, fr, H⟩, ⟨he, hf, hH⟩, hr⟩ := hT
    simp only at he hf hH
    subst he hf hH
    exact hr
  apply Tells.block
  refine Tells.loop (σ := Nat) (fun back => 1 ≤ back ∧ back ≤ p + 1) (fun back => grF7 c b o L.length p i n back) (fun _ => E) (fun back => p + 1 - back) ?_ 1 ⟨by omega, by omega⟩
  rintro back ⟨hb1, hb2⟩
  by_cases hle : back ≤ p
  · left
    have hleI : (back : Int) ≤ (p : Int) := by omega
    have hal := gr_alike (m := m) (c := c) (b := b) (o := o) (N := L.length) (p := p) (i := i) (n := n) (back := back) (E := E) hb1 hle hb hp
    have h19 := gr_r19 (m := m) (c := c) (b := b) (p := p) (n := n) (back := back) (k := sameB b (p - back) p 258 0) ho hw hx hL (hg back hb1 hle)
    refine ⟨back + 1, ⟨by omega, by omega⟩, ?_, by omega⟩
    apply Run.seq (fr' := grF7 c b o L.length p i n back ++ [(56, .bool true)]) (H' := E)
    · apply Run.seq (fr' := grF7 c b o L.length p i n back ++ [(56, .bool true)]) (H' := E)
      · simp only [grF7]
        generalize L.length = N at *
        (refine ⟨0, ?_⟩; simp (maxSteps := 2000000) -implicitDefEqProofs [-getElem?_pos, List.getElem?_cons_zero, List.getElem?_cons_succ, go_sem, eqV, plen, loadV, storeV, hleI, hle])
      · exact Run.cond (d := true) (by simp [grF7, evalO, getF]) ⟨0, rfl⟩
    apply Run.seq (fr' := grF7 c b o L.length p i n back ++ [(116, .bool false)]) (H' := E)
    · refine Run.block ?_ (by simp)
      apply Run.seq (fr' := grFr c b o L.length p i n back 0) (H' := E)
      · simp only [grF7, grFr]
        generalize L.length = N at *
        (refine ⟨0, ?_⟩; simp (maxSteps := 2000000) -implicitDefEqProofs [-getElem?_pos, List.getElem?_cons_zero, List.getElem?_cons_succ, go_sem, eqV, plen, loadV, storeV, assignV])
      apply Run.seq (piece hal _ rfl)
      apply Run.seq (piece h19 _ rfl)
      exact Run.cond (d := false) (by simp [grF7, evalO, getF]) ⟨0, rfl⟩
    · have w1 : IntKind.i64.wrap ((back : Int) + 1) = ((back + 1 : Nat) : Int) := by rw [wrap_i64 (by omega) (by omega)]; omega
      simp only [grF7]
      generalize L.length = N at *
      generalize back + 1 = b1 at *
      (refine ⟨0, ?_⟩; simp (maxSteps := 2000000) -implicitDefEqProofs [-getElem?_pos, List.getElem?_cons_zero, List.getElem?_cons_succ, go_sem, eqV, plen, loadV, storeV, w1, assignV])
  · right
    have hbe : back = p + 1 := by omega
    have hleI : ¬ (back : Int) ≤ (p : Int) := by omega
    refine ⟨⟨.exit 2, grF7 c b o L.length p i n back ++ [(56, .bool false)], E⟩, ⟨rfl, by rw [hbe], rfl⟩, by simp, ?_⟩
    refine Run.seq_out ?_ (by simp)
    apply Run.seq (fr' := grF7 c b o L.length p i n back ++ [(56, .bool false)]) (H' := E)
    · simp only [grF7]
      generalize L.length = N at *
      (refine ⟨0, ?_⟩; simp (maxSteps := 2000000) -implicitDefEqProofs [-getElem?_pos, List.getElem?_cons_zero, List.getElem?_cons_succ, go_sem, eqV, plen, loadV, storeV, hleI, hle])
    · exact Run.cond (d := false) (by simp [grF7, evalO, getF]) ⟨0, rfl⟩

end

end Go.Proofs.Yteblpjhkgdpchaa

/- Walks: the law DeflateGreedy: a piece. -/
namespace Go.Proofs.Yteblpjhkgdpchaa
open Go.AM
set_option linter.unusedSimpArgs false
set_option linter.unusedVariables false

section
variable {c : Nat} {b : List UInt8} {L : List Pc}

def grF5 (c : Nat) (b : List UInt8) (o N p i : Nat) : AM.Frame := [(0, .ro c (.pb b) 1), (3, .sl o 0 N 0), (4, .int .i64 (p : Nat)), (5, .int .i64 (i : Nat))]
def grF6 (c : Nat) (b : List UInt8) (o N p i n : Nat) : AM.Frame := [(0, .ro c (.pb b) 1), (3, .sl o 0 N 0), (4, .int .i64 (p : Nat)), (5, .int .i64 (i : Nat)), (6, .int .i64 (n : Nat))]

set_option maxRecDepth 100000 in
theorem gr_r10 {m o p i : Nat} {x : Pc} {ob : AM.Obj} {E : AM.Heap} (ho : E[o]? = some (some ob)) (hw : Rw (.pr 3 (L.map pcR)) 0 ob) (hx : L[i]? = some x) (hL : L.length ≤ 100000) : ∃ code, ((Try.f5.body).bind (codeAt [1, 1, 1, 1, 1, 0, 1, 0, 0, 1, 0, 0, 0])) = some code ∧ Run X (evT X) 5 m code (grF5 c b o L.length p i ++ [(19, .bool true)]) E ⟨.normal, grF6 c b o L.length p i (max 1 x.len), E⟩ := by
  refine ⟨_, rfl, ?_⟩
  have q1 := hw.p; have q2 := hw.g; have q4 := hw.ids; have q5 := hw.tg
  have hx' : (L.map pcR)[i]? = some (pcR x) := by rw [List.getElem?_map, hx]; rfl
  have hi := ltAt hx
  have hiI : (i : Int) < (L.length : Int) := by omega
  simp only [grF5, grF6, pcR] at hx' q1 ⊢
  generalize L.map pcR = R at *
  generalize L.length = N at *
  by_cases h : 1 < x.len
  · rw [Nat.max_eq_right (by omega)]
    have n1 : ¬ (x.len : Int) < 1 := by omega
    have n2 : ¬ x.len < 1 := by omega
    have n3 : ¬ x.len = 0 := by omega
    (refine ⟨0, ?_⟩; simp (maxSteps := 2000000) -implicitDefEqProofs [-getElem?_pos, List.getElem?_cons_zero, List.getElem?_cons_succ, go_sem, eqV, plen, loadV, storeV, retag, ho, q1, q2, q4, q5, hx', hiI, hi, minmax, n1, n2, n3, assignV])
  · have h01 : x.len = 0 ∨ x.len = 1 := by omega
    rcases h01 with h0 | h0
    · rw [h0] at hx' ⊢
      (refine ⟨0, ?_⟩; simp (maxSteps := 2000000) -implicitDefEqProofs [-getElem?_pos, List.getElem?_cons_zero, List.getElem?_cons_succ, go_sem, eqV, plen, loadV, storeV, retag, ho, q1, q2, q4, q5, hx', hiI, hi, minmax, assignV])
    · rw [h0] at hx' ⊢
      (refine ⟨0, ?_⟩; simp (maxSteps := 2000000) -implicitDefEqProofs [-getElem?_pos, List.getElem?_cons_zero, List.getElem?_cons_succ, go_sem, eqV, plen, loadV, storeV, retag, ho, q1, q2, q4, q5, hx', hiI, hi, minmax, assignV])

set_option maxRecDepth 100000 in
theorem gr_r11 {m o p i n : Nat} {x : Pc} {ob : AM.Obj} {E : AM.Heap} (ho : E[o]? = some (some ob)) (hw : Rw (.pr 3 (L.map pcR)) 0 ob) (hx : L[i]? = some x) (hL : L.length ≤ 100000) (hb : b.length ≤ 100000) (hfit : p + n ≤ b.length) (hn : 1 ≤ n) (hy : x.len = 0 → b[p]? = some x.byte) : ∃ code, ((Try.f5.body).bind (codeAt [1, 1, 1, 1, 1, 0, 1, 0, 0, 1, 0, 0, 1, 0, 0])) = some code ∧ Run X (evT X) 5 m code (grF6 c b o L.length p i n) E ⟨.normal, grF6 c b o L.length p i n ++ [(53, .bool false)], E⟩ := by
  refine ⟨_, rfl, ?_⟩
  have q1 := hw.p; have q2 := hw.g; have q4 := hw.ids; have q5 := hw.tg
  have hx' : (L.map pcR)[i]? = some (pcR x) := by rw [List.getElem?_map, hx]; rfl
  have hi := ltAt hx
  have hiI : (i : Int) < (L.length : Int) := by omega
  have w1 : IntKind.i64.wrap ((p : Int) + (n : Int)) = ((p + n : Nat) : Int) := by rw [wrap_i64 (by omega) (by omega)]; omega
  have n1 : ¬ (b.length : Int) < ((p + n : Nat) : Int) := by omega
  have n1N : ¬ b.length < p + n := by omega
  have hp : p < b.length := by omega
  have hpI : (p : Int) < (b.length : Int) := by omega
  simp only [grF6, pcR] at hx' q1 ⊢
  generalize L.map pcR = R at *
  generalize L.length = N at *
  generalize p + n = pn at *
  by_cases h0 : x.len = 0
  · have hy := hy h0
    rw [h0] at hx'
    (refine ⟨0, ?_⟩; simp (maxSteps := 2000000) -implicitDefEqProofs [-getElem?_pos, List.getElem?_cons_zero, List.getElem?_cons_succ, go_sem, eqV, plen, loadV, storeV, retag, ho, q1, q2, q4, q5, hx', hiI, hi, w1, n1, n1N, hp, hpI, hy])
  · have h0I : ¬ (x.len : Int) = 0 := by omega
    have h0b : ((x.len : Int) == 0) = false := by simpa using h0I
    (refine ⟨0, ?_⟩; simp (maxSteps := 2000000) -implicitDefEqProofs [-getElem?_pos, List.getElem?_cons_zero, List.getElem?_cons_succ, go_sem, eqV, plen, loadV, storeV, retag, ho, q1, q2, q4, q5, hx', hiI, hi, w1, n1, n1N, h0, h0I, h0b])

end

end Go.Proofs.Yteblpjhkgdpchaa
