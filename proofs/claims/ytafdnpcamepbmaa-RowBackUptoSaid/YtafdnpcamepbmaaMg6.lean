/- Y3 to Z3: texts of this claim, one behind the other; what each shows stands at its head. -/
import Derived.Test.YtafdnpcamepbmaaAm4
import Derived.Test.YtafdnpcamepbmaaMg5
/- Walks: what a binary row's reading takes and looks up. -/
namespace Go.Proofs.Ytafdnpcamepbmaa
open Go.AM
set_option linter.unusedSimpArgs false
set_option linter.unusedVariables false

/-- how a slice's first part lies -/
def c2 (c : Nat) : Nat := if c = 0 then 0 else 2

section
variable (c : Nat) (b : List UInt8) (n i : Nat)

set_option maxRecDepth 100000 in
theorem take_code (hc : c = 0 → b = []) (hn : n ≤ b.length) (hb : b.length ≤ 90000000) : ∃ code, Try.f28.body = some code ∧
    Run X (evT X) 28 1 code [(0, .int .i64 (n : Nat)), (1, .ptr 0 0 0 0)] [some (roB c (.pb b) 3 3)] ⟨.ret, [(3, .ro (c2 c) (.pb (b.take n)) 3), (4, .int .i64 0)], [some (roB c (.pb (b.drop n)) 3 3), some nilB]⟩ := by
  refine ⟨_, rfl, ?_⟩
  have h1 : ¬ (b.length : Int) < (n : Int) := by omega
  have hs1 := fun H => slTo (t := 3) hc hn H
  have hs2 := fun H => slFrom (t := 3) hc hn H
  refine ⟨0, ?_⟩
  simp (maxSteps := 2000000) -implicitDefEqProofs [-getElem?_pos, List.getElem?_cons_zero, List.getElem?_cons_succ, go_sem, eqV, plen, loadV, storeV, roB, h1, hs1, hs2, assignV, emB, c2]

set_option maxRecDepth 100000 in
theorem take_few (hn : b.length < n) : ∃ code, Try.f28.body = some code ∧
    Run X (evT X) 28 1 code [(0, .int .i64 (n : Nat)), (1, .ptr 0 0 0 0)] [some (roB c (.pb b) 3 3)] ⟨.ret, [(3, .sl 2 0 0 0), (4, .int .i64 4)], [some (roB c (.pb b) 3 3), some nilB, some nilB]⟩ := by
  refine ⟨_, rfl, ?_⟩
  have h1 : (b.length : Int) < (n : Int) := by omega
  refine ⟨0, ?_⟩
  simp (maxSteps := 2000000) -implicitDefEqProofs [-getElem?_pos, List.getElem?_cons_zero, List.getElem?_cons_succ, go_sem, eqV, plen, loadV, storeV, roB, h1, assignV, emB]

set_option maxRecDepth 100000 in
theorem set_code (hi : i / 8 < b.length) (hi2 : i ≤ 9000000) : ∃ code, Try.f29.body = some code ∧
    Run X (evT X) 29 1 code [(0, .int .i64 (i : Nat)), (1, .ptr 0 0 0 0)] [some (roB c (.pb b) 3 3)] ⟨.ret, [(3, .bool (bitB b i))], [some (roB c (.pb b) 3 3)]⟩ := by
  refine ⟨_, rfl, ?_⟩
  obtain ⟨y, hy⟩ : ∃ y, b[i / 8]? = some y := ⟨_, List.getElem?_eq_getElem hi⟩
  have hbit : bitB b i = ((y.toNat / 2 ^ (i % 8)) % 2 == 1) := by unfold bitB; rw [List.getD, hy]; rfl
  rw [hbit]
  have e1 : Int.tdiv (i : Int) 8 = ((i / 8 : Nat) : Int) := by rw [Int.tdiv_eq_ediv_of_nonneg (by omega)]; omega
  have e2 : Int.tmod (i : Int) 8 = ((i % 8 : Nat) : Int) := by rw [Int.tmod_eq_emod_of_nonneg (by omega)]; omega
  have e3 : (i : Int) / 8 = ((i / 8 : Nat) : Int) := by omega
  have e4 : (i : Int) % 8 = ((i % 8 : Nat) : Int) := by omega
  have w1 : IntKind.i64.wrap ((i / 8 : Nat) : Int) = ((i / 8 : Nat) : Int) := wrap_i64 (by omega) (by omega)
  have hii : ((i / 8 : Nat) : Int) < (b.length : Int) := by omega
  have hr0 : ¬ ((i % 8 : Nat) : Int) < 0 := by omega
  have hsh := shr8 (y := y.toNat) (j := i % 8) (Nat.mod_lt _ (by omega))
  have han := and1 (y := y.toNat) (j := i % 8) y.toNat_lt
  have heq : ∀ z : Nat, ((z : Int) == 1) = (z == 1) := by
    intro z
    by_cases h : z = 1
    · subst h; rfl
    · have : (z == 1) = false := by simpa using h
      rw [this]; exact beq_eq_false_iff_ne.2 (by omega)
  generalize i / 8 = q at *
  generalize i % 8 = r at *
  generalize y.toNat / 2 ^ r = d at *
  have han2 := han
  simp only [go_sem] at han2
  simp only [BitVec.toNat_and] at han
  have hq := heq (d % 2)
  generalize d % 2 = dd at *
  refine ⟨0, ?_⟩
  simp (maxSteps := 2000000) -implicitDefEqProofs [-getElem?_pos, List.getElem?_cons_zero, List.getElem?_cons_succ, go_sem, eqV, plen, loadV, storeV, roB, e1, e2, e3, e4, w1, hi, hii, hy, hr0, hsh, han, han2, hq, show IntKind.u8.bits = 8 from rfl]

end

theorem set_ev {H : AM.Heap} {o c t tg i : Nat} {I : Int} {b : List UInt8} (hI : I = (i : Nat)) (h1 : H[o]? = some (some (roB c (.pb b) t tg))) (hi : i / 8 < b.length) (hi2 : i ≤ 9000000) :
    evT X 29 [.int .i64 I, .ptr o 0 0 0] H = some (.bool (bitB b i), upd H o (some (roB c (.pb b) t t))) := by
  subst hI
  obtain ⟨code, hcode, hr⟩ := set_code c b i hi hi2
  exact evT_eq (Ev1.fn1 (C := X) (f := 29) (H := H) (xs := [.int .i64 (i : Nat)]) (n := 3) (l := [.bool (bitB b i)]) (rest := []) (evT_below X) Try.func29 hcode (fun i => by rfl) h1 rfl rfl (by simp [gtag])
    (by rw [par29]; simpa [coerce, numbered] using hr) (.inr rfl) rfl rfl rfl rfl)

theorem take_ev {H : AM.Heap} {o c t tg n : Nat} {N : Int} {b : List UInt8} (hN : N = (n : Nat)) (h1 : H[o]? = some (some (roB c (.pb b) t tg))) (hc : c = 0 → b = []) (hn : n ≤ b.length) (hb : b.length ≤ 90000000) :
    evT X 28 [.int .i64 N, .ptr o 0 0 0] H = some (.tup [.ro (c2 c) (.pb (b.take n)) t, .int .i64 0], upd H o (some (roB c (.pb (b.drop n)) t t))) := by
  subst hN
  obtain ⟨code, hcode, hr⟩ := take_code c b n hc hn hb
  have := Ev1.boxL (C := X) (f := 28) (H := H) (o := o) (g := 0) (ob := roB c (.pb b) t tg) (ob1 := roB c (.pb (b.drop n)) 3 3) (xs := [.int .i64 (n : Nat)]) (n := 3) (t := t) (l := [.ro (c2 c) (.pb (b.take n)) 3, .int .i64 0]) (rest := [some nilB]) (evT_below X) Try.func28 hcode (fun i => by rfl) h1 rfl (by simp [roB, ids, idsL]) rfl rfl (by simp [gtag])
    (by simp [tagsOb, roB, tags, tagsL, joinTags_one])
    (by rw [par28]; simpa [coerce, numbered, roB, rt, ren, renL] using hr) (.inr rfl) rfl rfl rfl (by simp [roB, ids, idsL]) rfl (by simp [resultV, noTups, tags, tagsL, tagsOb, roB]) (.inr rfl)
  exact evT_eq (by simpa [resultV, noTups, roB, ren, renL, bk] using this)

theorem take_ev' {H : AM.Heap} {o c t tg n : Nat} {N : Int} {b : List UInt8} (hN : N = (n : Nat)) (h1 : H[o]? = some (some (roB c (.pb b) t tg))) (hn : b.length < n) :
    ∃ ob, evT X 28 [.int .i64 N, .ptr o 0 0 0] H = some (.tup [.sl H.length 0 0 0, .int .i64 4], upd H o (some (roB c (.pb b) t t)) ++ [some ob]) := by
  subst hN
  obtain ⟨code, hcode, hr⟩ := take_few c b n hn
  have := Ev1.boxLNew (C := X) (f := 28) (H := H) (o := o) (g := 0) (ob := roB c (.pb b) t tg) (ob1 := roB c (.pb b) 3 3) (xs := [.int .i64 (n : Nat)]) (n := 3) (t := t) (o1 := 2) (g1 := 0) (ob2 := nilB) (l := [.sl 2 0 0 0, .int .i64 4]) (rest := [some nilB, some nilB]) (evT_below X) Try.func28 hcode (fun i => by rfl) h1 rfl (by simp [roB, ids, idsL]) rfl rfl (by simp [gtag])
    (by simp [tagsOb, roB, tags, tagsL, joinTags_one])
    (by rw [par28]; simpa [coerce, numbered, roB, rt, ren, renL] using hr) (.inr rfl) rfl rfl rfl (by simp [roB, ids, idsL]) rfl rfl (by omega) rfl rfl rfl (by simp [resultV, noTups, tags, tagsL, tagsOb, roB]) (.inr rfl)
  exact ⟨_, evT_eq (by simpa [resultV, noTups, roB, ren, renL, bk] using this)⟩

end Go.Proofs.Ytafdnpcamepbmaa

/- Walks: a binary row read: the kinds of its types. -/
namespace Go.Proofs.Ytafdnpcamepbmaa
open Go.AM
set_option linter.unusedSimpArgs false
set_option linter.unusedVariables false

/-- a type of no kind -/
def noK (t : Ty) : Bool := decide (kindN t.t t.u < 0)

section
variable (e : Nat) (ts : List Ty)

/-- the types, as they came -/
def tyA : AV := .ro e (.pr 2 (ts.map Ty.pay)) 2
def kdFr (i : Nat) : AM.Frame := [(1, tyA e ts), (2, .ptr 0 0 0 0), (25, tyA e ts), (26, .int .i64 (ts.length : Nat)), (27, .int .i64 (i : Nat))]

set_option maxRecDepth 100000 in
set_option maxHeartbeats 4000000 in
theorem kd_loop (ob0 : AM.Obj) (H : AM.Heap) (h0 : H[0]? = some (some ob0)) (hn : ts.length ≤ 4096) (ht : ∀ t ∈ ts, t.t < 256) :
    ∃ code, ((Try.f16.body).bind (codeAt [1, 1, 0, 1])) = some code ∧
      Tells (Or2 (fun fr H => ts.any noK = false ∧ fr = kdFr e ts ts.length ++ [(28, .bool false)] ∧ H[0]? = some (some ob0)) (fun out => out.ex = .ret ∧ ts.any noK = true ∧ ytQ ([], 2) out.fr out.H))
       X (evT X) 16 0 code (kdFr e ts 0) H := by
  refine ⟨_, rfl, ?_⟩
  have hTl : (ts.map Ty.pay).length = ts.length := List.length_map _
  have hTat : ∀ (i : Nat) (v : Ty), ts[i]? = some v → (ts.map Ty.pay)[i]? = some v.pay := fun i p h => (by rw [List.getElem?_map, h]; rfl)
  unfold kdFr tyA
  generalize ts.map Ty.pay = T at *
  apply Tells.blockOr
  refine Tells.loopP (fun k fr H => ∃ i, k = ts.length - i ∧ i ≤ ts.length ∧ fr = [(1, .ro e (.pr 2 T) 2), (2, .ptr 0 0 0 0), (25, .ro e (.pr 2 T) 2), (26, .int .i64 (ts.length : Nat)), (27, .int .i64 (i : Nat))] ∧ H[0]? = some (some ob0) ∧ ∀ (j : Nat) (t : Ty), j < i → ts[j]? = some t → noK t = false) ?_ (k := ts.length) ⟨0, rfl, by omega, rfl, h0, by omega⟩
  rintro k fr H ⟨i, rfl, hi, rfl, h0, hall⟩
  by_cases hin : i = ts.length
  · subst hin
    refine Tells.of (o := ⟨.exit 0, [(1, .ro e (.pr 2 T) 2), (2, .ptr 0 0 0 0), (25, .ro e (.pr 2 T) 2), (26, .int .i64 (ts.length : Nat)), (27, .int .i64 (ts.length : Nat))] ++ [(28, .bool false)], H⟩) ⟨0, ?_⟩ (.inr ⟨by simp, .inl ⟨rfl, ?_, rfl, h0⟩⟩)
    · simp (maxSteps := 2000000) -implicitDefEqProofs [-getElem?_pos, List.getElem?_cons_zero, List.getElem?_cons_succ, go_sem, eqV, plen, loadV, storeV]
    · rw [List.any_eq_false]
      intro t ht
      obtain ⟨j, hj⟩ := List.mem_iff_getElem?.1 ht
      rw [hall j t (at_lt hj) hj]; simp
  have hlt : i < ts.length := by omega
  have hiI : (i : Int) < (ts.length : Int) := by omega
  obtain ⟨t, htt⟩ : ∃ p, ts[i]? = some p := ⟨_, List.getElem?_eq_getElem hlt⟩
  have hm := List.mem_of_getElem? htt
  have hrow := hTat i t htt
  have hK := kind_ev (ht t hm) (H ++ [some (tyO t)])
  have hnew : ∀ x : Option AM.Obj, (H ++ [x])[H.length]? = some x := fun x => by simp
  have w1 : IntKind.i64.wrap ((i : Int) + 1) = ((i + 1 : Nat) : Int) := by rw [wrap_i64 (by omega) (by omega)]; omega
  simp only [tyO, Ty.pay] at hK hrow
  by_cases hk : kindN t.t t.u < 0
  · have hnk : noK t = true := decide_eq_true hk
    refine Tells.of (o := ⟨.ret, [(4, .sl (H.length + 1) 0 0 0), (5, .int .i64 2)], H ++ [some (tyO t)] ++ [some nilV]⟩) ⟨0, ?_⟩ (.inr ⟨by simp, .inr ⟨rfl, rfl, List.any_eq_true.2 ⟨t, hm, hnk⟩, H.length + 1, 0, nilV, rfl, rfl, by simp, nilV_rw⟩⟩)
    generalize kindN t.t t.u = kk at *
    simp (maxSteps := 2000000) -implicitDefEqProofs [-getElem?_pos, List.getElem?_cons_zero, List.getElem?_cons_succ, go_sem, eqV, plen, loadV, storeV, hiI, hlt, hTl, hrow, tyO, Ty.pay, retagL, retag, retagP, flatCells, splice, scalars, scalar, hnew, mkTy, hK, hk, assignV, emV]
  · have hnk : noK t = false := decide_eq_false hk
    refine Tells.of (o := ⟨.normal, [(1, .ro e (.pr 2 T) 2), (2, .ptr 0 0 0 0), (25, .ro e (.pr 2 T) 2), (26, .int .i64 (ts.length : Nat)), (27, .int .i64 ((i + 1 : Nat) : Int))], H ++ [some (tyO t)]⟩) ⟨0, ?_⟩ (.inl ⟨rfl, ts.length - (i + 1), by omega, i + 1, rfl, by omega, rfl, at_cat h0, fun j q hj hq => ?_⟩)
    · generalize kindN t.t t.u = kk at *
      simp (maxSteps := 2000000) -implicitDefEqProofs [-getElem?_pos, List.getElem?_cons_zero, List.getElem?_cons_succ, go_sem, eqV, plen, loadV, storeV, hiI, hlt, hTl, hrow, tyO, Ty.pay, retagL, retag, retagP, flatCells, splice, scalars, scalar, hnew, mkTy, hK, hk, w1]
    · by_cases hji : j = i
      · subst hji; rw [htt] at hq; obtain rfl := Option.some.inj hq; exact hnk
      · exact hall j q (by omega) hq

end

section
variable (e : Nat) (ts : List Ty) (L : Nat) (b : List UInt8) (cb tb : Nat)

def t12 : AV := .fn 29 [.ptr L 0 0 0]
def zbFr (i : Nat) : AM.Frame := [(1, tyA e ts), (2, .ptr 0 0 0 0), (12, t12 L), (65, .int .i64 ((8 * b.length : Nat) : Int)), (66, .int .i64 (i : Nat))]
/-- the bits' variable, and another -/
def zbHp (ob0 : AM.Obj) (H : AM.Heap) : Prop := H[0]? = some (some ob0) ∧ 0 < L ∧ ∃ tg, H[L]? = some (some (roB cb (.pb b) tb tg))

set_option maxRecDepth 100000 in
set_option maxHeartbeats 4000000 in
/-- no bit that is none may be set -/
theorem zb_loop (ob0 : AM.Obj) (H : AM.Heap) (hn : ts.length ≤ 4096) (hb : b.length ≤ 1000) (hH : zbHp L b cb tb ob0 H) :
    ∃ code, ((Try.f16.body).bind (codeAt [1, 1, 1, 1, 1, 1, 1, 1, 1, 0, 1])) = some code ∧
      Tells (Or2 (fun fr H => (List.range (8 * b.length)).any (bzB b ts.length) = false ∧ fr = zbFr e ts L b (8 * b.length) ++ [(67, .bool false)] ∧ zbHp L b cb tb ob0 H) (fun out => out.ex = .ret ∧ (List.range (8 * b.length)).any (bzB b ts.length) = true ∧ ytQ ([], 5) out.fr out.H))
       X (evT X) 16 0 code (zbFr e ts L b 0) H := by
  refine ⟨_, rfl, ?_⟩
  have hTl : (ts.map Ty.pay).length = ts.length := List.length_map _
  unfold zbFr tyA t12
  generalize ts.map Ty.pay = T at *
  generalize hm8 : 8 * b.length = m8 at *
  apply Tells.blockOr
  refine Tells.loopP (fun k fr H => ∃ i, k = m8 - i ∧ i ≤ m8 ∧ fr = [(1, .ro e (.pr 2 T) 2), (2, .ptr 0 0 0 0), (12, .fn 29 [.ptr L 0 0 0]), (65, .int .i64 (m8 : Nat)), (66, .int .i64 (i : Nat))] ∧ zbHp L b cb tb ob0 H ∧ ∀ (j : Nat), j < i → bzB b ts.length j = false) ?_ (k := m8) ⟨0, rfl, by omega, rfl, hH, by omega⟩
  rintro k fr H ⟨i, rfl, hi, rfl, ⟨h0, hL, tg, h1⟩, hall⟩
  by_cases hin : i = m8
  · subst hin
    refine Tells.of (o := ⟨.exit 3, [(1, .ro e (.pr 2 T) 2), (2, .ptr 0 0 0 0), (12, .fn 29 [.ptr L 0 0 0]), (65, .int .i64 (i : Nat)), (66, .int .i64 (i : Nat))] ++ [(67, .bool false)], H⟩) ⟨0, ?_⟩ (.inr ⟨by simp, .inl ⟨rfl, ?_, rfl, h0, hL, tg, h1⟩⟩)
    · simp (maxSteps := 2000000) -implicitDefEqProofs [-getElem?_pos, List.getElem?_cons_zero, List.getElem?_cons_succ, go_sem, eqV, plen, loadV, storeV]
    · rw [List.any_eq_false]
      intro j hj
      rw [hall j (List.mem_range.1 hj)]; simp
  have hiI : (i : Int) < (m8 : Int) := by omega
  have w1 : IntKind.i64.wrap ((i : Int) + 1) = ((i + 1 : Nat) : Int) := by rw [wrap_i64 (by omega) (by omega)]; omega
  have w2 : IntKind.i64.wrap ((ts.length : Int) + 2) = ((ts.length + 2 : Nat) : Int) := by rw [wrap_i64 (by omega) (by omega)]; omega
  have hS := set_ev (I := (i : Nat)) rfl h1 (by omega) (by omega)
  have hbz : bzB b ts.length i = (bitB b i && (decide (i < 2) || decide (ts.length + 2 ≤ i))) := rfl
  have hL1 : (upd H L (some (roB cb (.pb b) tb tb)))[0]? = some (some ob0) := at_ne h0 (by omega)
  have hL2 : (upd H L (some (roB cb (.pb b) tb tb)))[L]? = some (some (roB cb (.pb b) tb tb)) := at_set h1
  have i2 : (i : Int) < 2 ↔ i < 2 := by omega
  have i3 : ((ts.length + 2 : Nat) : Int) ≤ (i : Int) ↔ ts.length + 2 ≤ i := by omega
  generalize hHu : upd H L (some (roB cb (.pb b) tb tb)) = HU at *
  cases hz : bzB b ts.length i with
  | true =>
    rw [hz] at hbz
    refine Tells.of (o := ⟨.ret, [(4, .sl HU.length 0 0 0), (5, .int .i64 5)], HU ++ [some nilV]⟩) ⟨0, ?_⟩ (.inr ⟨by simp, .inr ⟨rfl, rfl, List.any_eq_true.2 ⟨i, List.mem_range.2 (by omega), hz⟩, HU.length, 0, nilV, rfl, rfl, by simp, nilV_rw⟩⟩)
    have hbz := hbz.symm
    simp only [Bool.and_eq_true, Bool.or_eq_true, decide_eq_true_eq] at hbz
    rw [hbz.1] at hS
    generalize ts.length + 2 = n2 at *
    by_cases h2 : i < 2
    · have h2I : (i : Int) < 2 := by omega
      simp (maxSteps := 2000000) -implicitDefEqProofs [-getElem?_pos, List.getElem?_cons_zero, List.getElem?_cons_succ, go_sem, eqV, plen, loadV, storeV, hiI, hS, h2, h2I, hTl, assignV, emV]
    · have h2I : ¬ (i : Int) < 2 := by omega
      have h3 : n2 ≤ i := by omega
      have h3I : (n2 : Int) ≤ (i : Int) := by omega
      simp (maxSteps := 2000000) -implicitDefEqProofs [-getElem?_pos, List.getElem?_cons_zero, List.getElem?_cons_succ, go_sem, eqV, plen, loadV, storeV, hiI, hS, h2, h2I, h3, h3I, hTl, w2, assignV, emV]
  | false =>
    rw [hz] at hbz
    refine Tells.of (o := ⟨.normal, [(1, .ro e (.pr 2 T) 2), (2, .ptr 0 0 0 0), (12, .fn 29 [.ptr L 0 0 0]), (65, .int .i64 (m8 : Nat)), (66, .int .i64 ((i + 1 : Nat) : Int))], HU⟩) ⟨0, ?_⟩ (.inl ⟨rfl, m8 - (i + 1), by omega, i + 1, rfl, by omega, rfl, ⟨hL1, hL, tb, hL2⟩, fun j hj => ?_⟩)
    · have hbz := hbz.symm
      generalize ts.length + 2 = n2 at *
      cases hbit : bitB b i with
      | false =>
        rw [hbit] at hS
        simp (maxSteps := 2000000) -implicitDefEqProofs [-getElem?_pos, List.getElem?_cons_zero, List.getElem?_cons_succ, go_sem, eqV, plen, loadV, storeV, hiI, hS, w1]
      | true =>
        rw [hbit] at hS hbz
        have h2 : ¬ i < 2 ∧ ¬ n2 ≤ i := by simpa using hbz
        obtain ⟨h2, h3⟩ := h2
        have h2I : ¬ (i : Int) < 2 := by omega
        have h3I : ¬ (n2 : Int) ≤ (i : Int) := by omega
        simp (maxSteps := 2000000) -implicitDefEqProofs [-getElem?_pos, List.getElem?_cons_zero, List.getElem?_cons_succ, go_sem, eqV, plen, loadV, storeV, hiI, hS, h2, h2I, h3, h3I, hTl, w1, w2]
    · by_cases hji : j = i
      · subst hji; exact hz
      · exact hall j (by omega)

end

end Go.Proofs.Ytafdnpcamepbmaa

/- Walks: a binary row read: types of nothing. -/
namespace Go.Proofs.Ytafdnpcamepbmaa
open Go.AM
set_option linter.unusedSimpArgs false
set_option linter.unusedVariables false

section
variable (e : Nat) (ts : List Ty) (L : Nat) (b : List UInt8) (cb tb : Nat)

def nzFr (i : Nat) : AM.Frame := [(1, tyA e ts), (2, .ptr 0 0 0 0), (12, t12 L), (84, tyA e ts), (85, .int .i64 (ts.length : Nat)), (86, .int .i64 (i : Nat))]

set_option maxRecDepth 100000 in
set_option maxHeartbeats 4000000 in
/-- no type of nothing may have a value -/
theorem nz_loop (ob0 : AM.Obj) (H : AM.Heap) (hn : ts.length ≤ 4096) (hb : b.length ≤ 1000) (hm : ts.length + 2 ≤ 8 * b.length) (ht : ∀ t ∈ ts, t.t < 256) (hH : zbHp L b cb tb ob0 H) :
    ∃ code, ((Try.f16.body).bind (codeAt [1, 1, 1, 1, 1, 1, 1, 1, 1, 1, 0, 1])) = some code ∧
      Tells (Or2 (fun fr H => (List.range ts.length).any (nzB b ts) = false ∧ fr = nzFr e ts L ts.length ++ [(87, .bool false)] ∧ zbHp L b cb tb ob0 H) (fun out => out.ex = .ret ∧ (List.range ts.length).any (nzB b ts) = true ∧ ytQ ([], 5) out.fr out.H))
       X (evT X) 16 0 code (nzFr e ts L 0) H := by
  refine ⟨_, rfl, ?_⟩
  have hTl : (ts.map Ty.pay).length = ts.length := List.length_map _
  have hTat : ∀ (i : Nat) (v : Ty), ts[i]? = some v → (ts.map Ty.pay)[i]? = some v.pay := fun i p h => (by rw [List.getElem?_map, h]; rfl)
  unfold nzFr tyA t12
  generalize ts.map Ty.pay = T at *
  apply Tells.blockOr
  refine Tells.loopP (fun k fr H => ∃ i, k = ts.length - i ∧ i ≤ ts.length ∧ fr = [(1, .ro e (.pr 2 T) 2), (2, .ptr 0 0 0 0), (12, .fn 29 [.ptr L 0 0 0]), (84, .ro e (.pr 2 T) 2), (85, .int .i64 (ts.length : Nat)), (86, .int .i64 (i : Nat))] ∧ zbHp L b cb tb ob0 H ∧ ∀ (j : Nat), j < i → nzB b ts j = false) ?_ (k := ts.length) ⟨0, rfl, by omega, rfl, hH, by omega⟩
  rintro k fr H ⟨i, rfl, hi, rfl, ⟨h0, hL, tg, h1⟩, hall⟩
  by_cases hin : i = ts.length
  · subst hin
    refine Tells.of (o := ⟨.exit 5, [(1, .ro e (.pr 2 T) 2), (2, .ptr 0 0 0 0), (12, .fn 29 [.ptr L 0 0 0]), (84, .ro e (.pr 2 T) 2), (85, .int .i64 (ts.length : Nat)), (86, .int .i64 (ts.length : Nat))] ++ [(87, .bool false)], H⟩) ⟨0, ?_⟩ (.inr ⟨by simp, .inl ⟨rfl, ?_, rfl, h0, hL, tg, h1⟩⟩)
    · simp (maxSteps := 2000000) -implicitDefEqProofs [-getElem?_pos, List.getElem?_cons_zero, List.getElem?_cons_succ, go_sem, eqV, plen, loadV, storeV]
    · rw [List.any_eq_false]
      intro j hj
      rw [hall j (List.mem_range.1 hj)]; simp
  have hlt : i < ts.length := by omega
  have hiI : (i : Int) < (ts.length : Int) := by omega
  obtain ⟨t, htt⟩ : ∃ p, ts[i]? = some p := ⟨_, List.getElem?_eq_getElem hlt⟩
  have hrow := hTat i t htt
  have w1 : IntKind.i64.wrap ((i : Int) + 1) = ((i + 1 : Nat) : Int) := by rw [wrap_i64 (by omega) (by omega)]; omega
  have w2 : IntKind.i64.wrap ((i : Int) + 2) = ((i + 2 : Nat) : Int) := by rw [wrap_i64 (by omega) (by omega)]; omega
  have hnew : ∀ x : Option AM.Obj, (H ++ [x])[H.length]? = some x := fun x => by simp
  have hS := set_ev (H := H ++ [some (tyO t)]) (I := ((i + 2 : Nat) : Int)) rfl (at_cat h1) (by omega) (by omega)
  have hnz : nzB b ts i = (decide (t.t = 6) && !bitB b (i + 2)) := by unfold nzB; rw [tyI_at htt]
  have hLl := at_lt h1
  have hup : upd (H ++ [some (tyO t)]) L (some (roB cb (.pb b) tb tb)) = upd H L (some (roB cb (.pb b) tb tb)) ++ [some (tyO t)] := by unfold upd; rw [List.set_append_left _ _ hLl]
  rw [hup] at hS
  have hL1 : (upd H L (some (roB cb (.pb b) tb tb)))[0]? = some (some ob0) := at_ne h0 (by omega)
  have hL2 : (upd H L (some (roB cb (.pb b) tb tb)))[L]? = some (some (roB cb (.pb b) tb tb)) := at_set h1
  have hul : (upd H L (some (roB cb (.pb b) tb tb))).length = H.length := by simp [upd]
  generalize upd H L (some (roB cb (.pb b) tb tb)) = HU at *
  simp only [tyO, Ty.pay] at hS hrow
  generalize i + 2 = i2 at *
  by_cases h6 : t.t = 6
  · rw [decide_eq_true h6, Bool.true_and] at hnz
    have h6b : ((t.t : Int) == 6) = true := by rw [h6]; rfl
    cases hbit : bitB b i2 with
    | false =>
      rw [hbit] at hS hnz
      refine Tells.of (o := ⟨.ret, [(4, .sl (HU.length + 1) 0 0 0), (5, .int .i64 5)], HU ++ [some (tyO t)] ++ [some nilV]⟩) ⟨0, ?_⟩ (.inr ⟨by simp, .inr ⟨rfl, rfl, List.any_eq_true.2 ⟨i, List.mem_range.2 hlt, hnz⟩, HU.length + 1, 0, nilV, rfl, rfl, by simp, nilV_rw⟩⟩)
      simp (maxSteps := 2000000) -implicitDefEqProofs [-getElem?_pos, List.getElem?_cons_zero, List.getElem?_cons_succ, go_sem, eqV, plen, loadV, storeV, hiI, hlt, hTl, hrow, tyO, Ty.pay, retagL, retag, retagP, flatCells, splice, scalars, scalar, hnew, mkTy, w2, hS, h6b, unV, assignV, emV]
    | true =>
      rw [hbit] at hS hnz
      refine Tells.of (o := ⟨.normal, [(1, .ro e (.pr 2 T) 2), (2, .ptr 0 0 0 0), (12, .fn 29 [.ptr L 0 0 0]), (84, .ro e (.pr 2 T) 2), (85, .int .i64 (ts.length : Nat)), (86, .int .i64 ((i + 1 : Nat) : Int))], HU ++ [some (tyO t)]⟩) ⟨0, ?_⟩ (.inl ⟨rfl, ts.length - (i + 1), by omega, i + 1, rfl, by omega, rfl, ⟨at_cat hL1, hL, tb, at_cat hL2⟩, fun j hj => ?_⟩)
      · simp (maxSteps := 2000000) -implicitDefEqProofs [-getElem?_pos, List.getElem?_cons_zero, List.getElem?_cons_succ, go_sem, eqV, plen, loadV, storeV, hiI, hlt, hTl, hrow, tyO, Ty.pay, retagL, retag, retagP, flatCells, splice, scalars, scalar, hnew, mkTy, w1, w2, hS, h6b, unV]
      · by_cases hji : j = i
        · subst hji; exact hnz
        · exact hall j (by omega)
  · rw [decide_eq_false h6, Bool.false_and] at hnz
    have h6b : ((t.t : Int) == 6) = false := beq_eq_false_iff_ne.2 (by omega)
    refine Tells.of (o := ⟨.normal, [(1, .ro e (.pr 2 T) 2), (2, .ptr 0 0 0 0), (12, .fn 29 [.ptr L 0 0 0]), (84, .ro e (.pr 2 T) 2), (85, .int .i64 (ts.length : Nat)), (86, .int .i64 ((i + 1 : Nat) : Int))], H ++ [some (tyO t)]⟩) ⟨0, ?_⟩ (.inl ⟨rfl, ts.length - (i + 1), by omega, i + 1, rfl, by omega, rfl, ⟨at_cat h0, hL, tg, at_cat h1⟩, fun j hj => ?_⟩)
    · simp (maxSteps := 2000000) -implicitDefEqProofs [-getElem?_pos, List.getElem?_cons_zero, List.getElem?_cons_succ, go_sem, eqV, plen, loadV, storeV, hiI, hlt, hTl, hrow, tyO, Ty.pay, retagL, retag, retagP, flatCells, splice, scalars, scalar, hnew, mkTy, w1, h6b, unV]
    · by_cases hji : j = i
      · subst hji; exact hnz
      · exact hall j (by omega)

end

end Go.Proofs.Ytafdnpcamepbmaa

/- Walks: a value read: whole. -/
namespace Go.Proofs.Ytafdnpcamepbmaa
open Go.AM
set_option linter.unusedSimpArgs false
set_option linter.unusedVariables false

section
variable (c : Nat) (b : List UInt8) (t : Ty)

set_option maxRecDepth 100000 in
set_option maxHeartbeats 4000000 in
theorem vread_code (hc : c = 0 → b = []) (ht : t.t < 256) (hbm : b.length ≤ 90000000) :
    ∃ code, Try.f30.body = some code ∧
    Tells (Rets (rvQ (rdV b t))) X (evT X) 30 0 code [(0, .ro c (.pb b) 1), (1, .agg t.pay)] [] := by
  refine ⟨_, rfl, ?_⟩
  have hK := kind_ev ht [some (tyO t), some (vaO {})]
  have hbd := kind_bd t.t t.u
  have hB : Byt [some (tyO t), some (vaO {})] (.ro c (.pb b) 1) b := Byt.ro (.inl rfl) hc
  have hb0 := bvV0
  apply Tells.seq (fr' := [(0, .ro c (.pb b) 1), (3, .ptr 0 0 0 0), (4, .ptr 1 0 0 0)]) (H' := [some (tyO t), some (vaO {})])
  · (refine ⟨0, ?_⟩; simp (maxSteps := 2000000) -implicitDefEqProofs [-getElem?_pos, List.getElem?_cons_zero, List.getElem?_cons_succ, go_sem, eqV, plen, loadV, storeV, tyO, Ty.pay, vaO, Va.pay])
  apply Tells.seq (fr' := [(0, .ro c (.pb b) 1), (3, .ptr 0 0 0 0), (4, .ptr 1 0 0 0), (7, .int .i64 (kindN t.t t.u))]) (H' := [some (tyO t), some (vaO {})])
  · simp only [tyO, Ty.pay, vaO, Va.pay, Int.cast_ofNat_Int] at hK
    generalize kindN t.t t.u = k at *
    (refine ⟨0, ?_⟩; simp (maxSteps := 2000000) -implicitDefEqProofs [-getElem?_pos, List.getElem?_cons_zero, List.getElem?_cons_succ, go_sem, eqV, plen, loadV, storeV, tyO, Ty.pay, vaO, Va.pay, mkTy, hK])
  clear hK
  apply Tells.assoc
  apply Tells.seq (fr' := [(0, .ro c (.pb b) 1), (3, .ptr 0 0 0 0), (4, .ptr 1 0 0 0), (7, .int .i64 (kindN t.t t.u)), (19, .int .i64 (kindN t.t t.u))]) (H' := [some (tyO t), some (vaO {})])
  · generalize kindN t.t t.u = k at *
    (refine ⟨0, ?_⟩; simp (maxSteps := 2000000) -implicitDefEqProofs [-getElem?_pos, List.getElem?_cons_zero, List.getElem?_cons_succ, go_sem, eqV, plen, loadV, storeV])
  apply Tells.or (P := fun fr H => fr = [(0, .ro c (.pb b) 1), (3, .ptr 0 0 0 0), (4, .ptr 1 0 0 0), (7, .int .i64 (kindN t.t t.u)), (45, .bool false)] ∧ H = [some (tyO t), some (vaO {})] ∧ (kindN t.t t.u = 1 ∨ kindN t.t t.u = 2 ∨ kindN t.t t.u = 3 ∨ kindN t.t t.u = 4))
  · apply Tells.blkOr (hq := fun o h => by rw [h.1]; simp)
    simp only [Va.pay, Int.cast_ofNat_Int] at hb0
    by_cases h1 : kindN t.t t.u < 0
    · have hm : kindN t.t t.u = -1 := by omega
      have hr : rdV b t = ({}, 0, 2) := if_pos h1
      rw [hr, hm]
      refine Tells.of (o := ⟨.ret, [(4, .ptr 1 0 0 0), (5, .int .i64 0), (6, .int .i64 2)], [some (tyO t), some (vaO {})]⟩) ⟨0, ?_⟩ (.inr ⟨by simp, rfl, rfl, rfl, rfl, rfl⟩)
      simp (maxSteps := 2000000) -implicitDefEqProofs [-getElem?_pos, List.getElem?_cons_zero, List.getElem?_cons_succ, go_sem, eqV, plen, loadV, storeV, tyO, Ty.pay, vaO, Va.pay, hb0, mkVa, flatCells, splice, scalars]
    have e1 : (kindN t.t t.u == -1) = false := beq_eq_false_iff_ne.2 (by omega)
    by_cases h2 : kindN t.t t.u = 0
    · have hr : rdV b t = ({}, 0, 0) := by unfold rdV; rw [if_neg h1, if_pos h2]
      rw [hr, h2]
      refine Tells.of (o := ⟨.ret, [(4, .ptr 1 0 0 0), (5, .int .i64 0), (6, .int .i64 0)], [some (tyO t), some (vaO {})]⟩) ⟨0, ?_⟩ (.inr ⟨by simp, rfl, rfl, rfl, rfl, rfl⟩)
      simp (maxSteps := 2000000) -implicitDefEqProofs [-getElem?_pos, List.getElem?_cons_zero, List.getElem?_cons_succ, go_sem, eqV, plen, loadV, storeV, tyO, Ty.pay, vaO, Va.pay, hb0, mkVa, flatCells, splice, scalars]
    have e2 : (kindN t.t t.u == 0) = false := beq_eq_false_iff_ne.2 h2
    by_cases h5 : kindN t.t t.u = 5 ∨ kindN t.t t.u = 6
    · have hr : rdV b t = if (rdW b t.t).2.2 ≠ 0 then ({}, 0, (rdW b t.t).2.2) else ({ k := kindN t.t t.u, w := (rdW b t.t).1 }, (rdW b t.t).2.1, 0) := by
        unfold rdV; rw [if_neg h1, if_neg h2, if_pos h5]
      rw [hr]
      have hW := rw_ev hB ht hbm
      generalize rdW b t.t = r at *
      obtain ⟨w, n, e⟩ := r
      have hbw := fun k => bvVw k w
      simp only [Wh.pay, Va.pay, Int.cast_ofNat_Int] at hbw
      simp only at *
      by_cases he : e = 0
      · subst he
        rw [if_neg (by simp)]
        refine Tells.of (o := ⟨.ret, [(4, .ptr 1 0 0 0), (5, .int .i64 (n : Nat)), (6, .int .i64 0)], [some (tyO t), some (vaO { k := kindN t.t t.u, w := w }), some (whO w)]⟩) ⟨0, ?_⟩ (.inr ⟨by simp, rfl, rfl, rfl, rfl, rfl⟩)
        simp only [tyO, Ty.pay, vaO, Va.pay, Wh.pay, Int.cast_ofNat_Int] at hW
        rcases h5 with h5 | h5 <;> rw [h5]
        · simp (maxSteps := 2000000) -implicitDefEqProofs [-getElem?_pos, List.getElem?_cons_zero, List.getElem?_cons_succ, go_sem, eqV, plen, loadV, storeV, tyO, Ty.pay, vaO, Va.pay, whO, Wh.pay, hW, hbw, mkVa, mkWh, flatCells, splice, scalars]
        · simp (maxSteps := 2000000) -implicitDefEqProofs [-getElem?_pos, List.getElem?_cons_zero, List.getElem?_cons_succ, go_sem, eqV, plen, loadV, storeV, tyO, Ty.pay, vaO, Va.pay, whO, Wh.pay, hW, hbw, mkVa, mkWh, flatCells, splice, scalars]
      · have heb : (e != 0) = true := by simpa using he
        rw [if_pos he]
        refine Tells.of (o := ⟨.ret, [(4, .ptr 1 0 0 0), (5, .int .i64 0), (6, .int .i64 e)], [some (tyO t), some (vaO {}), some (whO w)]⟩) ⟨0, ?_⟩ (.inr ⟨by simp, rfl, rfl, rfl, rfl, rfl⟩)
        simp only [tyO, Ty.pay, vaO, Va.pay, Wh.pay, Int.cast_ofNat_Int] at hW
        rcases h5 with h5 | h5 <;> rw [h5]
        · simp (maxSteps := 2000000) -implicitDefEqProofs [-getElem?_pos, List.getElem?_cons_zero, List.getElem?_cons_succ, go_sem, eqV, plen, loadV, storeV, tyO, Ty.pay, vaO, Va.pay, whO, Wh.pay, hW, hb0, heb, mkVa, mkWh, flatCells, splice, scalars]
        · simp (maxSteps := 2000000) -implicitDefEqProofs [-getElem?_pos, List.getElem?_cons_zero, List.getElem?_cons_succ, go_sem, eqV, plen, loadV, storeV, tyO, Ty.pay, vaO, Va.pay, whO, Wh.pay, hW, hb0, heb, mkVa, mkWh, flatCells, splice, scalars]
    have e5 : (kindN t.t t.u == 5) = false := beq_eq_false_iff_ne.2 (by omega)
    have e6 : (kindN t.t t.u == 6) = false := beq_eq_false_iff_ne.2 (by omega)
    by_cases h7 : kindN t.t t.u = 7
    · have hr : rdV b t = if (rdT b).2.2 ≠ 0 then ({}, 0, (rdT b).2.2) else if 16777216 < (rdT b).1.length then ({}, 0, 5) else ({ k := 7, t := (rdT b).1 }, (rdT b).2.1, 0) := by
        unfold rdV; rw [if_neg h1, if_neg h2, if_neg h5, if_pos h7]
      rw [hr, h7]
      have hT := readText_ev hB hbm
      generalize rdT b = r at *
      obtain ⟨s, n, e⟩ := r
      have hbt := fun k => bvVt k s
      simp only [Va.pay, Int.cast_ofNat_Int] at hbt
      simp only at *
      simp only [tyO, Ty.pay, vaO, Va.pay, Int.cast_ofNat_Int] at hT
      by_cases he : e = 0
      · subst he
        rw [if_neg (by simp)]
        by_cases hs : 16777216 < s.length
        · rw [if_pos hs]
          have hsi : (16777216 : Int) < (s.length : Int) := by omega
          refine Tells.of (o := ⟨.ret, [(4, .ptr 1 0 0 0), (5, .int .i64 0), (6, .int .i64 5)], [some (tyO t), some (vaO {})]⟩) ⟨0, ?_⟩ (.inr ⟨by simp, rfl, rfl, rfl, rfl, rfl⟩)
          simp (maxSteps := 2000000) -implicitDefEqProofs [-getElem?_pos, List.getElem?_cons_zero, List.getElem?_cons_succ, go_sem, eqV, plen, loadV, storeV, tyO, Ty.pay, vaO, Va.pay, hT, hb0, hsi, hs, mkVa, flatCells, splice, scalars]
        · rw [if_neg hs]
          have hsi : ¬ (16777216 : Int) < (s.length : Int) := by omega
          refine Tells.of (o := ⟨.ret, [(4, .ptr 1 0 0 0), (5, .int .i64 (n : Nat)), (6, .int .i64 0)], [some (tyO t), some (vaO { k := 7, t := s })]⟩) ⟨0, ?_⟩ (.inr ⟨by simp, rfl, rfl, rfl, rfl, rfl⟩)
          simp (maxSteps := 2000000) -implicitDefEqProofs [-getElem?_pos, List.getElem?_cons_zero, List.getElem?_cons_succ, go_sem, eqV, plen, loadV, storeV, tyO, Ty.pay, vaO, Va.pay, hT, hbt, hsi, hs, mkVa, flatCells, splice, scalars]
      · have heb : (e != 0) = true := by simpa using he
        rw [if_pos he]
        refine Tells.of (o := ⟨.ret, [(4, .ptr 1 0 0 0), (5, .int .i64 0), (6, .int .i64 e)], [some (tyO t), some (vaO {})]⟩) ⟨0, ?_⟩ (.inr ⟨by simp, rfl, rfl, rfl, rfl, rfl⟩)
        simp (maxSteps := 2000000) -implicitDefEqProofs [-getElem?_pos, List.getElem?_cons_zero, List.getElem?_cons_succ, go_sem, eqV, plen, loadV, storeV, tyO, Ty.pay, vaO, Va.pay, hT, hb0, heb, mkVa, flatCells, splice, scalars]
    have e7 : (kindN t.t t.u == 7) = false := beq_eq_false_iff_ne.2 h7
    refine Tells.of (o := ⟨.normal, [(0, .ro c (.pb b) 1), (3, .ptr 0 0 0 0), (4, .ptr 1 0 0 0), (7, .int .i64 (kindN t.t t.u)), (45, .bool false)], [some (tyO t), some (vaO {})]⟩) ⟨0, ?_⟩ (.inl ⟨rfl, rfl, rfl, by omega⟩)
    generalize kindN t.t t.u = k at *
    simp (maxSteps := 2000000) -implicitDefEqProofs [-getElem?_pos, List.getElem?_cons_zero, List.getElem?_cons_succ, go_sem, eqV, plen, loadV, storeV, e1, e2, e5, e6, e7]
  rintro fr H ⟨rfl, rfl, hk⟩
  exact piece (vread_num c b t hc ht hbm hk) _ rfl

end

theorem vread_ev {H : AM.Heap} {a : AV} {b : List UInt8} {t : Ty} (h : Byt H a b) (ht : t.t < 256) (hbm : b.length ≤ 90000000) :
    evT X 30 [a, .agg t.pay] H = some (.tup [.agg (rdV b t).1.pay, .int .i64 ((rdV b t).2.1 : Nat), .int .i64 (rdV b t).2.2], H) := by
  obtain ⟨c, p, xl, hp, hc, hx'⟩ := args_byt (C := X) (f := 30) (i := 0) rfl h (args_ty (f := 30) (i := 1) (t := t) (args_nil 2))
  obtain ⟨code, hcode, o, ⟨he, q4, q0, q5, q6⟩, hr⟩ := vread_code c b t hc ht hbm
  refine evT_eq (Ev1.toldP (l := [.agg (rdV b t).1.pay, .int .i64 ((rdV b t).2.1 : Nat), .int .i64 (rdV b t).2.2]) (evT_below X) Try.func30 hcode hx' (by simp [idsL, ids, Ty.pay]) (by simp [gtag]) (by simp [idsL, ids, Va.pay]) (by simp [tagsL, tags, Va.pay]) rfl ⟨o, ⟨he, ?_⟩, by rw [par30, coB hp]; exact hr⟩)
  generalize rdV b t = r at *
  show resultsV X o.fr o.H [.cell 4 44, .tmp 5, .tmp 6] = _
  simp only [vaO, Va.pay] at q0
  simp [resultsV, q4, q5, q6, loadV, live, q0, pagg, mkVa, Va.pay]

theorem rdW_le (b : List UInt8) (t : Nat) : (rdW b t).2.1 ≤ b.length := by
  unfold rdW
  repeat' split
  all_goals (try exact Nat.zero_le _)
  all_goals (simp only; omega)

end Go.Proofs.Ytafdnpcamepbmaa

/- Walks: a binary row read: a value. -/
namespace Go.Proofs.Ytafdnpcamepbmaa
open Go.AM
set_option linter.unusedSimpArgs false
set_option linter.unusedVariables false

/-- values at a place -/
def ytAt (K : Nat) (a : List Va) (H : AM.Heap) : Prop := ∃ ob, H[K]? = some (some ob) ∧ Rw (.pr 12 (a.map Va.pay)) a.length ob

/-- the heap of a round: what is left, the bits, the values so far -/
structure BvHp (c L K : Nat) (b : List UInt8) (cb tb : Nat) (H : AM.Heap) (a : List Va) (r : List UInt8) : Prop where
  h0 : H[0]? = some (some (roB c (.pb r) 1 1))
  hl : ∃ tg, H[L]? = some (some (roB cb (.pb b) tb tg))
  hk : ytAt K a H
  l0 : 0 < L
  k0 : 0 < K
  ne : K ≠ L

theorem BvHp.push {c L K : Nat} {b : List UInt8} {cb tb : Nat} {H : AM.Heap} {a : List Va} {r : List UInt8} (h : BvHp c L K b cb tb H a r) (x : AM.Heap) : BvHp c L K b cb tb (H ++ x) a r := by
  obtain ⟨tg, h1⟩ := h.hl
  obtain ⟨ob, h2, h3⟩ := h.hk
  exact ⟨at_cat h.h0, ⟨tg, at_cat h1⟩, ⟨ob, at_cat h2, h3⟩, h.l0, h.k0, h.ne⟩
theorem BvHp.look {c L K : Nat} {b : List UInt8} {cb tb : Nat} {H : AM.Heap} {a : List Va} {r : List UInt8} (h : BvHp c L K b cb tb H a r) : BvHp c L K b cb tb (upd H L (some (roB cb (.pb b) tb tb))) a r := by
  obtain ⟨tg, h1⟩ := h.hl
  obtain ⟨ob, h2, h3⟩ := h.hk
  exact ⟨at_ne h.h0 (by have := h.l0; omega), ⟨tb, at_set h1⟩, ⟨ob, at_ne h2 (by have := h.ne; omega), h3⟩, h.l0, h.k0, h.ne⟩
theorem BvHp.put {c L K : Nat} {b : List UInt8} {cb tb : Nat} {H : AM.Heap} {a a' : List Va} {r : List UInt8} {ob' : AM.Obj} (h : BvHp c L K b cb tb H a r) (hw : Rw (.pr 12 (a'.map Va.pay)) a'.length ob') : BvHp c L K b cb tb (upd H K (some ob')) a' r := by
  obtain ⟨tg, h1⟩ := h.hl
  obtain ⟨ob, h2, h3⟩ := h.hk
  exact ⟨at_ne h.h0 (by have := h.k0; omega), ⟨tg, at_ne h1 h.ne⟩, ⟨ob', at_set h2, hw⟩, h.l0, h.k0, h.ne⟩
theorem BvHp.store {c L K : Nat} {b : List UInt8} {cb tb : Nat} {H : AM.Heap} {a : List Va} {r : List UInt8} (r' : List UInt8) (h : BvHp c L K b cb tb H a r) : BvHp c L K b cb tb (upd H 0 (some (roB c (.pb r') 1 1))) a r' := by
  obtain ⟨tg, h1⟩ := h.hl
  obtain ⟨ob, h2, h3⟩ := h.hk
  exact ⟨at_set h.h0, ⟨tg, at_ne h1 (by have := h.l0; omega)⟩, ⟨ob, at_ne h2 (by have := h.k0; omega), h3⟩, h.l0, h.k0, h.ne⟩

section
variable (c e : Nat) (ts : List Ty) (L K : Nat) (b : List UInt8) (cb tb : Nat)

def bvFr (i : Nat) : AM.Frame := [(2, .ptr 0 0 0 0), (12, t12 L), (16, .sl K 0 i i), (102, tyA e ts), (103, .int .i64 (ts.length : Nat)), (104, .int .i64 (i : Nat))]
/-- behind a value -/
def bvFz (i : Nat) : AM.Frame := [(2, .ptr 0 0 0 0), (12, t12 L), (16, .sl K 0 (i + 1) (i + 1)), (102, tyA e ts), (103, .int .i64 (ts.length : Nat)), (104, .int .i64 (i : Nat))]

/-- a frame within a round -/
def bvFm (i : Nat) (m tl : AM.Frame) : AM.Frame := [(2, .ptr 0 0 0 0), (12, t12 L), (16, .sl K 0 i i)] ++ m ++ [(102, tyA e ts), (103, .int .i64 (ts.length : Nat)), (104, .int .i64 (i : Nat))] ++ tl

set_option maxRecDepth 100000 in
set_option maxHeartbeats 4000000 in
/-- the type's own place -/
theorem bv34 (i : Nat) (t : Ty) (H : AM.Heap) (ht : ts[i]? = some t) :
    ∃ code, ((Try.f16.body).bind (codeAt [1, 1, 1, 1, 1, 1, 1, 1, 1, 1, 1, 1, 0, 1, 0, 0, 1, 1, 0, 0, 0])) = some code ∧ Run X (evT X) 16 0 code (bvFr e ts L K i ++ [(105, .bool true)]) H ⟨.normal, bvFm e ts L K i [(17, .int .i64 (i : Nat)), (18, .ptr H.length 0 0 0)] [], H ++ [some (tyO t)]⟩ := by
  refine ⟨_, rfl, ?_⟩
  have hTl : (ts.map Ty.pay).length = ts.length := List.length_map _
  have hrow : (ts.map Ty.pay)[i]? = some t.pay := by rw [List.getElem?_map, ht]; rfl
  have hlt := at_lt ht
  have hiI : (i : Int) < (ts.length : Int) := by omega
  have hnew : ∀ x : Option AM.Obj, (H ++ [x])[H.length]? = some x := fun x => by simp
  unfold bvFr bvFm tyA t12
  generalize ts.map Ty.pay = T at *
  simp only [Ty.pay] at hrow
  (refine ⟨0, ?_⟩; simp (maxSteps := 2000000) -implicitDefEqProofs [-getElem?_pos, List.getElem?_cons_zero, List.getElem?_cons_succ, go_sem, eqV, plen, loadV, storeV, hiI, hlt, hTl, hrow, tyO, Ty.pay, retagL, retag, retagP, flatCells, splice, scalars, scalar, hnew, mkTy])

set_option maxRecDepth 100000 in
set_option maxHeartbeats 4000000 in
/-- is it nothing? -/
theorem bv35 (i k tg : Nat) (H : AM.Heap) (hi : i ≤ 4096) (h8 : i + 2 < 8 * b.length) (h1 : H[L]? = some (some (roB cb (.pb b) tb tg))) :
    ∃ code, ((Try.f16.body).bind (codeAt [1, 1, 1, 1, 1, 1, 1, 1, 1, 1, 1, 1, 0, 1, 0, 0, 1, 1, 0, 0, 1, 0, 0])) = some code ∧ Run X (evT X) 16 0 code (bvFm e ts L K i [(17, .int .i64 (i : Nat)), (18, .ptr k 0 0 0)] []) H ⟨.normal, bvFm e ts L K i [(18, .ptr k 0 0 0)] [(112, .bool (bitB b (i + 2)))], upd H L (some (roB cb (.pb b) tb tb))⟩ := by
  refine ⟨_, rfl, ?_⟩
  have w2 : IntKind.i64.wrap ((i : Int) + 2) = ((i + 2 : Nat) : Int) := by rw [wrap_i64 (by omega) (by omega)]; omega
  have hS := set_ev (H := H) (I := ((i + 2 : Nat) : Int)) rfl h1 (by omega) (by omega)
  unfold bvFm tyA t12
  generalize ts.map Ty.pay = T at *
  generalize i + 2 = i2 at *
  generalize upd H L (some (roB cb (.pb b) tb tb)) = HU at *
  (refine ⟨0, ?_⟩; simp (maxSteps := 2000000) -implicitDefEqProofs [-getElem?_pos, List.getElem?_cons_zero, List.getElem?_cons_succ, go_sem, eqV, plen, loadV, storeV, w2, hS])

set_option maxRecDepth 100000 in
set_option maxHeartbeats 4000000 in
/-- nothing, put behind the others -/
theorem bv36 (k : Nat) (a : List Va) (r : List UInt8) (H : AM.Heap) (ha : a.length ≤ 9000000) (hH : BvHp c L K b cb tb H a r) :
    ∃ H', BvHp c L K b cb tb H' (a ++ [({} : Va)]) r ∧ ∃ code, ((Try.f16.body).bind (codeAt [1, 1, 1, 1, 1, 1, 1, 1, 1, 1, 1, 1, 0, 1, 0, 0, 1, 1, 0, 0, 1, 0, 1, 0, 0])) = some code ∧ Run X (evT X) 16 0 code (bvFm e ts L K a.length [(18, .ptr k 0 0 0)] [(112, .bool true)]) H ⟨.normal, bvFz e ts L K a.length, H'⟩ := by
  obtain ⟨ob, h1, hw⟩ := hH.hk
  obtain ⟨ob', hw', hA⟩ := app_va ({} : Va) rfl ha h1 hw
  refine ⟨upd H K (some ob'), hH.put (by simpa using hw'), _, rfl, ?_⟩
  have hbs := fun H => bsVa H ({} : Va)
  have hbv := bvV0
  simp only [Va.pay, Int.cast_ofNat_Int] at hA hbs hbv
  unfold bvFm bvFz tyA t12
  generalize ts.map Ty.pay = T at *
  generalize a.length = i at *
  (refine ⟨0, ?_⟩; simp (maxSteps := 2000000) -implicitDefEqProofs [-getElem?_pos, List.getElem?_cons_zero, List.getElem?_cons_succ, go_sem, eqV, plen, loadV, storeV, hbv, hbs, hA, assignV])

set_option maxRecDepth 100000 in
set_option maxHeartbeats 4000000 in
/-- a value, read -/
theorem bv37 (i k tg : Nat) (t : Ty) (r : List UInt8) (H : AM.Heap) (hc : c = 0 → r = []) (ht : t.t < 256) (hr : r.length ≤ 90000000) (h0 : H[0]? = some (some (roB c (.pb r) 1 tg))) (hk : H[k]? = some (some (tyO t))) :
    ∃ code, ((Try.f16.body).bind (codeAt [1, 1, 1, 1, 1, 1, 1, 1, 1, 1, 1, 1, 0, 1, 0, 0, 1, 1, 0, 0, 1, 1, 0])) = some code ∧ Run X (evT X) 16 0 code (bvFm e ts L K i [(18, .ptr k 0 0 0)] [(112, .bool false)]) H ⟨.normal, bvFm e ts L K i [(19, .ptr H.length 0 0 0), (20, .int .i64 ((rdV r t).2.1 : Nat)), (21, .int .i64 (rdV r t).2.2)] [], H ++ [some (vaO (rdV r t).1)]⟩ := by
  refine ⟨_, rfl, ?_⟩
  have hV := vread_ev (H := H) (a := .ro c (.pb r) 1) (b := r) (t := t) (Byt.ro (.inl rfl) hc) ht hr
  have hnew : ∀ x : Option AM.Obj, (H ++ [x])[H.length]? = some x := fun x => by simp
  generalize rdV r t = x at *
  obtain ⟨v, n, er⟩ := x
  unfold bvFm tyA t12
  generalize ts.map Ty.pay = T at *
  simp only [Ty.pay, Va.pay] at hV
  (refine ⟨0, ?_⟩; simp (maxSteps := 2000000) -implicitDefEqProofs [-getElem?_pos, List.getElem?_cons_zero, List.getElem?_cons_succ, go_sem, eqV, plen, loadV, storeV, h0, hk, roB, tyO, Ty.pay, vaO, Va.pay, mkTy, mkVa, hV, hnew, retagL, retag, retagP, flatCells, splice, scalars, scalar, assignV])

set_option maxRecDepth 100000 in
set_option maxHeartbeats 4000000 in
/-- a value, put behind the others; what is left -/
theorem bv40 (k n : Nat) (v : Va) (a : List Va) (r : List UInt8) (H : AM.Heap) (hc : c = 0 → r = []) (hn : n ≤ r.length) (ha : a.length ≤ 9000000) (hk : H[k]? = some (some (vaO v))) (h0k : 0 < k) (hkK : k ≠ K) (hH : BvHp c L K b cb tb H a r) :
    ∃ H', BvHp c L K b cb tb H' (a ++ [v]) (r.drop n) ∧ ∃ code, ((Try.f16.body).bind (codeAt [1, 1, 1, 1, 1, 1, 1, 1, 1, 1, 1, 1, 0, 1, 0, 0, 1, 1, 0, 0, 1, 1, 1, 1])) = some code ∧ Run X (evT X) 16 0 code (bvFm e ts L K a.length [(19, .ptr k 0 0 0), (20, .int .i64 (n : Nat)), (21, .int .i64 0)] [(125, .bool false)]) H ⟨.normal, bvFz e ts L K a.length, H'⟩ := by
  obtain ⟨ob, h1, hw⟩ := hH.hk
  obtain ⟨ob', hw', hA⟩ := app_va v rfl ha h1 hw
  have hput : BvHp c L K b cb tb (upd H K (some ob')) (a ++ [v]) r := hH.put (by simpa using hw')
  refine ⟨upd (upd H K (some ob')) 0 (some (roB c (.pb (r.drop n)) 1 1)), hput.store _, _, rfl, ?_⟩
  have h0 := hput.h0
  have k0 := hH.k0
  have hkl := at_lt hk
  have hbs := fun H => bsVa H v
  have hsl := fun H => slFrom (c := c) (t := 1) (n := n) (b := r) hc hn H
  have hul : (upd H K (some ob')).length = H.length := by simp [upd]
  have n1 : (K == 0) = false := beq_eq_false_iff_ne.2 (by omega)
  have n2 : (k == 0) = false := beq_eq_false_iff_ne.2 (by omega)
  have n3 : (k == K) = false := beq_eq_false_iff_ne.2 (by omega)
  simp only [Va.pay] at hA hbs
  unfold bvFm bvFz tyA t12
  generalize ts.map Ty.pay = T at *
  generalize a.length = i at *
  generalize upd H K (some ob') = HU at *
  simp only [roB] at h0
  apply Run.dy (by simp) keep16_40 (by simp)
  · (conv => lhs; simp (maxSteps := 2000000) -implicitDefEqProofs [-getElem?_pos, List.getElem?_cons_zero, List.getElem?_cons_succ, go_sem, eqV, plen, loadV, storeV, runD, out1, markOf, freeO, quietO, pushes, isAssign, calledV, touched, mentioned, opVals, touchCall, mentionCall, idsAt, Op.operands, ids, idsL, lendArgs, lendV, lend1, lendL, eqH_self, hk, vaO, Va.pay, mkVa, hbs, hA, hsl, h0, roB, assignV, retagL, retag, retagP, flatCells, splice, scalars, scalar])
    rfl
  · refine marksOk_of (ps := [(0, 1), (0, 2), (0, 4), (1, 4), (2, 4), (3, 4), (0, 5), (1, 5), (2, 5), (3, 5), (4, 5), (0, 6), (1, 6), (2, 6), (3, 6), (4, 7), (5, 7), (6, 7)]) (by kernel_rfl) ?_
    simp [bearP, bear, disjoint, lookOk, noslVa, Call.operands, evalO, getF, idsL, ids]
    omega
  · rfl

end

end Go.Proofs.Ytafdnpcamepbmaa

/- Walks: the document's reader of fields: texts, bytes 0. -/
namespace Go.Proofs.Ytafdnpcamepbmaa
open Go.AM
set_option linter.unusedSimpArgs false
set_option linter.unusedVariables false

/-- a counted text off what is left -/
def rtF (s : St) : List UInt8 × St := if s.2 ≠ 0 then ([], s) else ((rdT s.1).1, s.1.drop (rdT s.1).2.1, (rdT s.1).2.2)
/-- n bytes 0 off what is left -/
def zrS (n : Nat) (s : St) : St := ((fx n s).2.1, wr ((bts n s).any (· != 0)) (fx n s).2.2)

theorem rdT_bad {b : List UInt8} (h : (rdT b).2.2 ≠ 0) : (rdT b).1 = [] ∧ (rdT b).2.1 = 0 := by
  unfold rdT at h ⊢
  split
  · exact ⟨rfl, rfl⟩
  · rename_i h1
    rw [if_neg h1] at h
    split
    · exact ⟨rfl, rfl⟩
    · rename_i h2
      rw [if_neg h2] at h
      exact absurd rfl h

theorem rdT_le' (b : List UInt8) : (rdT b).2.1 ≤ b.length := by
  by_cases h : (rdT b).2.2 = 0
  · exact (rdT_le h).1
  · rw [(rdT_bad h).2]; omega

theorem rtF_nil {c : Nat} {s : St} (h : c = 0 → s.1 = []) : c = 0 → (rtF s).2.1 = [] := by
  intro hc
  have := h hc
  unfold rtF; split
  · exact this
  · simp [this]
theorem rtF_len (s : St) : (rtF s).2.1.length ≤ s.1.length := by
  unfold rtF; split
  · exact Nat.le_refl _
  · simp

section
variable (c t tg : Nat) (s : St)

end

def zrFr (n len i : Nat) (bad : Bool) : AM.Frame := [(0, .ptr 0 0 0 0), (1, .int .i64 (n : Nat)), (4, .sl 1 0 len 0), (5, .bool bad), (6, .int .i64 (i : Nat))]

theorem take_any {l : List UInt8} {i : Nat} {y : UInt8} (h : l[i]? = some y) : (l.take (i + 1)).any (· != 0) = ((l.take i).any (· != 0) || (y != 0)) := by
  rw [take_snoc h]; simp

section
variable (c t : Nat) (s : St) (n : Nat)

end

end Go.Proofs.Ytafdnpcamepbmaa

/- Plain: a value that is read is no longer than what is there. -/
namespace Go.Proofs.Ytafdnpcamepbmaa
open Go.AM
set_option linter.unusedSimpArgs false
set_option linter.unusedVariables false

theorem rdV_le (b : List UInt8) (t : Ty) (hb : b.length ≤ 90000000) : (rdV b t).2.1 ≤ b.length := by
  have h1 := rdW_le b t.t
  have h2 := rdT_le' b
  unfold rdV
  by_cases hr : (rfR b (sizeN t.t)).2 = 0
  · have hs : sizeN t.t ≤ b.length := by
      unfold rfR at hr
      split at hr
      · cases hr
      · split at hr
        · cases hr
        · omega
    repeat' split
    all_goals (simp only)
    all_goals omega
  · rw [if_pos hr]
    repeat' split
    all_goals (simp only)
    all_goals omega

end Go.Proofs.Ytafdnpcamepbmaa

/- Walks: a binary row read: a round, all of them. -/
namespace Go.Proofs.Ytafdnpcamepbmaa
open Go.AM
set_option linter.unusedSimpArgs false
set_option linter.unusedVariables false

section
variable (c e : Nat) (ts : List Ty) (L K : Nat) (b : List UInt8) (cb tb : Nat)

set_option maxRecDepth 100000 in
set_option maxHeartbeats 4000000 in
theorem bv_round (a : List Va) (r : List UInt8) (t : Ty) (H : AM.Heap) (hn : ts.length ≤ 4096) (hb : b.length ≤ 1000) (hm : ts.length + 2 ≤ 8 * b.length) (ht : ts[a.length]? = some t) (h256 : t.t < 256) (hc : c = 0 → r = []) (hr : r.length ≤ 90000000) (hH : BvHp c L K b cb tb H a r) :
    ∃ code, ((Try.f16.body).bind (codeAt [1, 1, 1, 1, 1, 1, 1, 1, 1, 1, 1, 1, 0, 1, 0, 0, 1, 1, 0])) = some code ∧
      Tells (Or2 (fun fr H' => ∃ r' v, fr = bvFz e ts L K a.length ∧ r'.length ≤ r.length ∧ (∀ k, rbF (fun i => bitB b (i + 2)) ts (k + 1) a.length a r = rbF (fun i => bitB b (i + 2)) ts k (a.length + 1) (a ++ [v]) r') ∧ BvHp c L K b cb tb H' (a ++ [v]) r') (fun out => out.ex = .ret ∧ ∃ er, er ≠ 0 ∧ (∀ k, rbF (fun i => bitB b (i + 2)) ts (k + 1) a.length a r = ([], [], er)) ∧ ytQ ([], er) out.fr out.H))
       X (evT X) 16 0 code (bvFr e ts L K a.length ++ [(105, .bool true)]) H := by
  refine ⟨_, rfl, ?_⟩
  have hlt := at_lt ht
  have hH1 : BvHp c L K b cb tb (H ++ [some (tyO t)]) a r := hH.push _
  obtain ⟨tg, hL⟩ := hH1.hl
  have hH2 := hH1.look
  have hLl := at_lt hL
  have hLH : L < H.length := by obtain ⟨tg, h⟩ := hH.hl; exact at_lt h
  have hk2 : (upd (H ++ [some (tyO t)]) L (some (roB cb (.pb b) tb tb)))[H.length]? = some (some (tyO t)) := at_ne (by simp) (by omega)
  have r34 := bv34 e ts L K a.length t H ht
  have r35 := bv35 e ts L K b cb tb a.length H.length tg (H ++ [some (tyO t)]) (by omega) (by omega) hL
  have hHl : (upd (H ++ [some (tyO t)]) L (some (roB cb (.pb b) tb tb))).length = H.length + 1 := by simp [upd]
  generalize upd (H ++ [some (tyO t)]) L (some (roB cb (.pb b) tb tb)) = H2 at *
  cases hbit : bitB b (a.length + 2) with
  | true =>
    rw [hbit] at r35
    obtain ⟨H3, hH3, r36⟩ := bv36 c e ts L K b cb tb H.length a r H2 (by omega) hH2
    refine Tells.of (o := ⟨.normal, bvFz e ts L K a.length, H3⟩) ?_ (.inl ⟨rfl, r, {}, rfl, by simp, fun k => by rw [rbF, if_pos hbit], hH3⟩)
    apply Run.block_exit (id := 8)
    apply Run.seq (piece r34 _ rfl)
    apply Run.seq_out (hne := by simp)
    apply Run.seq (piece r35 _ rfl)
    refine condT (by simp [evalO, getF, bvFm]) ?_
    apply Run.seq (piece r36 _ rfl)
    exact ⟨0, rfl⟩
  | false =>
    rw [hbit] at r35
    have hX : ∀ k, rbF (fun i => bitB b (i + 2)) ts (k + 1) a.length a r = if (rdV r t).2.2 ≠ 0 then ([], [], (rdV r t).2.2) else rbF (fun i => bitB b (i + 2)) ts k (a.length + 1) (a ++ [(rdV r t).1]) (r.drop (rdV r t).2.1) := fun k => by rw [rbF, if_neg (by rw [hbit]; simp), tyI_at ht]
    have r37 := bv37 c e ts L K a.length H.length 1 t r H2 hc h256 hr hH2.h0 hk2
    have hle := rdV_le r t hr
    have hH3 : BvHp c L K b cb tb (H2 ++ [some (vaO (rdV r t).1)]) a r := hH2.push _
    have hk3 : (H2 ++ [some (vaO (rdV r t).1)])[H2.length]? = some (some (vaO (rdV r t).1)) := by simp
    generalize rdV r t = x at *
    obtain ⟨v, n, er⟩ := x
    simp only at *
    refine Tells.blkOr ?_ ?_
    · apply Tells.seq (piece r34 _ rfl)
      apply Tells.seq (fr' := bvFm e ts L K a.length [(18, .ptr H.length 0 0 0)] [(112, .bool false)]) (H' := H2)
      · apply Run.seq (piece r35 _ rfl)
        exact condF (by simp [evalO, getF, bvFm]) ⟨0, rfl⟩
      apply Tells.seq (piece r37 _ rfl)
      by_cases he : er = 0
      · subst he
        have hKl : K < H2.length := by obtain ⟨ob, h, _⟩ := hH2.hk; exact at_lt h
        apply Tells.seq (fr' := bvFm e ts L K a.length [(19, .ptr H2.length 0 0 0), (20, .int .i64 (n : Nat)), (21, .int .i64 0)] [(125, .bool false)]) (H' := H2 ++ [some (vaO v)])
        · apply Run.seq (fr' := bvFm e ts L K a.length [(19, .ptr H2.length 0 0 0), (20, .int .i64 (n : Nat)), (21, .int .i64 0)] [(125, .bool false)]) (H' := H2 ++ [some (vaO v)])
          · unfold bvFm tyA t12
            generalize ts.map Ty.pay = T at *
            (refine ⟨0, ?_⟩; simp (maxSteps := 2000000) -implicitDefEqProofs [-getElem?_pos, List.getElem?_cons_zero, List.getElem?_cons_succ, go_sem, eqV, plen, loadV, storeV])
          · exact condF (by simp [evalO, getF, bvFm]) ⟨0, rfl⟩
        obtain ⟨H4, hH4, r40⟩ := bv40 c e ts L K b cb tb H2.length n v a r (H2 ++ [some (vaO v)]) hc hle (by omega) hk3 (by omega) (by omega) hH3
        exact Tells.of (piece r40 _ rfl) (.inl ⟨rfl, r.drop n, v, rfl, by simp, fun k => by rw [hX, if_neg (by simp)], hH4⟩)
      · have heb : (er != 0) = true := by simpa using he
        refine Tells.of (o := ⟨.ret, [(4, .sl (H2.length + 1) 0 0 0), (5, .int .i64 er)], H2 ++ [some (vaO v)] ++ [some nilV]⟩) ?_ (.inr ⟨by simp, rfl, er, he, fun k => by rw [hX, if_pos he], H2.length + 1, 0, nilV, rfl, rfl, by simp, nilV_rw⟩)
        apply Run.seq_out (hne := by simp)
        unfold bvFm tyA t12
        generalize ts.map Ty.pay = T at *
        refine ⟨0, ?_⟩
        simp (maxSteps := 2000000) -implicitDefEqProofs [-getElem?_pos, List.getElem?_cons_zero, List.getElem?_cons_succ, go_sem, eqV, plen, loadV, storeV, heb, assignV, emV]
    · rintro o ⟨h1, _⟩
      rw [h1]; simp

set_option maxRecDepth 100000 in
set_option maxHeartbeats 4000000 in
theorem bv_loop (r : List UInt8) (H : AM.Heap) (hn : ts.length ≤ 4096) (hb : b.length ≤ 1000) (hm : ts.length + 2 ≤ 8 * b.length) (h256 : ∀ t ∈ ts, t.t < 256) (hc : c = 0 → r = []) (hr : r.length ≤ 90000000) (hH : BvHp c L K b cb tb H [] r) :
    ∃ code, ((Try.f16.body).bind (codeAt [1, 1, 1, 1, 1, 1, 1, 1, 1, 1, 1, 1, 0, 1])) = some code ∧
      Tells (Or2 (fun fr H => ∃ a r', a.length = ts.length ∧ fr = bvFr e ts L K ts.length ++ [(105, .bool false)] ∧ rbF (fun i => bitB b (i + 2)) ts ts.length 0 [] r = (a, r', 0) ∧ BvHp c L K b cb tb H a r') (fun out => out.ex = .ret ∧ ∃ er, er ≠ 0 ∧ rbF (fun i => bitB b (i + 2)) ts ts.length 0 [] r = ([], [], er) ∧ ytQ ([], er) out.fr out.H))
       X (evT X) 16 0 code (bvFr e ts L K 0) H := by
  refine ⟨_, rfl, ?_⟩
  apply Tells.blockOr
  refine Tells.loopP (fun k fr H => ∃ a r', k = ts.length - a.length ∧ a.length ≤ ts.length ∧ fr = bvFr e ts L K a.length ∧ r'.length ≤ r.length ∧ rbF (fun i => bitB b (i + 2)) ts ts.length 0 [] r = rbF (fun i => bitB b (i + 2)) ts (ts.length - a.length) a.length a r' ∧ BvHp c L K b cb tb H a r') ?_ (k := ts.length) ⟨[], r, by simp, by simp, rfl, by simp, by simp, hH⟩
  rintro k fr H ⟨a, r', rfl, ha, rfl, hr', hX, hH⟩
  by_cases hin : a.length = ts.length
  · refine Tells.of (o := ⟨.exit 7, bvFr e ts L K ts.length ++ [(105, .bool false)], H⟩) ⟨0, ?_⟩ (.inr ⟨by simp, .inl ⟨rfl, a, r', hin, rfl, by rw [hX, hin, Nat.sub_self]; rfl, hH⟩⟩)
    rw [hin]
    unfold bvFr tyA t12
    generalize ts.map Ty.pay = T at *
    simp (maxSteps := 2000000) -implicitDefEqProofs [-getElem?_pos, List.getElem?_cons_zero, List.getElem?_cons_succ, go_sem, eqV, plen, loadV, storeV]
  have hlt : a.length < ts.length := by omega
  have hiI : ((a.length : Nat) : Int) < (ts.length : Int) := by omega
  obtain ⟨t, htt⟩ : ∃ p, ts[a.length]? = some p := ⟨_, List.getElem?_eq_getElem hlt⟩
  apply Tells.seq (fr' := bvFr e ts L K a.length ++ [(105, .bool true)]) (H' := H)
  · unfold bvFr tyA t12
    generalize ts.map Ty.pay = T at *
    generalize a.length = i at *
    (refine ⟨0, ?_⟩; simp (maxSteps := 2000000) -implicitDefEqProofs [-getElem?_pos, List.getElem?_cons_zero, List.getElem?_cons_succ, go_sem, eqV, plen, loadV, storeV, hiI])
  apply Tells.seq (fr' := bvFr e ts L K a.length ++ [(105, .bool true)]) (H' := H)
  · refine condT (by simp [evalO, getF, bvFr]) ?_
    exact ⟨0, rfl⟩
  have hs : ts.length - a.length = (ts.length - (a.length + 1)) + 1 := by omega
  apply Tells.or (P := fun fr H' => ∃ r2 v, fr = bvFz e ts L K a.length ∧ r2.length ≤ r'.length ∧ (∀ k, rbF (fun i => bitB b (i + 2)) ts (k + 1) a.length a r' = rbF (fun i => bitB b (i + 2)) ts k (a.length + 1) (a ++ [v]) r2) ∧ BvHp c L K b cb tb H' (a ++ [v]) r2)
  · refine (piece (bv_round c e ts L K b cb tb a r' t H hn hb hm htt (h256 t (List.mem_of_getElem? htt)) (fun h => List.eq_nil_of_length_eq_zero (by have := hc h; subst this; simpa using hr')) (by omega) hH) _ rfl).mono ?_
    rintro o (h | ⟨h1, h2, er, he, h3, h4⟩)
    · exact .inl h
    · exact .inr ⟨h1, .inr ⟨h1, .inr ⟨h2, h2, er, he, by rw [hX, hs, h3], h4⟩⟩⟩
  rintro fr H' ⟨r2, v, rfl, h1, h2, h3⟩
  have w1 : IntKind.i64.wrap (((a.length : Nat) : Int) + 1) = ((a.length + 1 : Nat) : Int) := by rw [wrap_i64 (by omega) (by omega)]; omega
  refine Tells.of (o := ⟨.normal, bvFr e ts L K (a.length + 1), H'⟩) ⟨0, ?_⟩ (.inl ⟨rfl, ts.length - (a.length + 1), by omega, a ++ [v], r2, by simp, by simp; omega, by simp, by omega, by rw [hX, hs, h2]; simp, h3⟩)
  unfold bvFr bvFz tyA t12
  generalize ts.map Ty.pay = T at *
  generalize a.length = i at *
  simp (maxSteps := 2000000) -implicitDefEqProofs [-getElem?_pos, List.getElem?_cons_zero, List.getElem?_cons_succ, go_sem, eqV, plen, loadV, storeV, w1]

end

end Go.Proofs.Ytafdnpcamepbmaa

/- Walks: a binary row read: whole. -/
namespace Go.Proofs.Ytafdnpcamepbmaa
open Go.AM
set_option linter.unusedSimpArgs false
set_option linter.unusedVariables false

section
variable (c e : Nat) (ts : List Ty)

set_option maxRecDepth 100000 in
set_option maxHeartbeats 8000000 in
/-- behind the bits -/
theorem br_tail (b r : List UInt8) (L cb tb : Nat) (H : AM.Heap) (hn : ts.length ≤ 4096) (hb : b.length = (ts.length + 9) / 8) (h256 : ∀ t ∈ ts, t.t < 256) (hc : c = 0 → r = []) (hr : r.length ≤ 90000000) (h0 : H[0]? = some (some (roB c (.pb r) 1 1))) (hL : ∃ tg, H[L]? = some (some (roB cb (.pb b) tb tg))) (l0 : 0 < L) :
    ∃ code, ((Try.f16.body).bind (codeAt [1, 1, 1, 1, 1, 1, 1, 1])) = some code ∧
      Tells (Rets (ytQ (rdBm b r ts))) X (evT X) 16 0 code [(1, tyA e ts), (2, .ptr 0 0 0 0), (10, .int .i64 0), (11, .ptr L 0 0 0), (60, .bool false)] H := by
  refine ⟨_, rfl, ?_⟩
  obtain ⟨tg, hL⟩ := hL
  have hTl : (ts.map Ty.pay).length = ts.length := List.length_map _
  apply Tells.seq (fr' := [(1, tyA e ts), (2, .ptr 0 0 0 0), (11, .ptr L 0 0 0), (12, t12 L)]) (H' := H)
  · unfold tyA t12
    generalize ts.map Ty.pay = T at *
    (refine ⟨0, ?_⟩; simp (maxSteps := 2000000) -implicitDefEqProofs [-getElem?_pos, List.getElem?_cons_zero, List.getElem?_cons_succ, go_sem, eqV, plen, loadV, storeV, assignV, scalars, scalar])
  have w8 : IntKind.i64.wrap (8 * (b.length : Int)) = ((8 * b.length : Nat) : Int) := by rw [wrap_i64 (by omega) (by omega)]; omega
  apply Tells.assoc
  apply Tells.seq (fr' := zbFr e ts L b 0) (H' := H)
  · unfold zbFr tyA t12
    generalize ts.map Ty.pay = T at *
    generalize 8 * b.length = m8 at *
    (refine ⟨0, ?_⟩; simp (maxSteps := 2000000) -implicitDefEqProofs [-getElem?_pos, List.getElem?_cons_zero, List.getElem?_cons_succ, go_sem, eqV, plen, loadV, storeV, hL, roB, w8])
  apply Tells.or (P := fun fr H => (List.range (8 * b.length)).any (bzB b ts.length) = false ∧ fr = zbFr e ts L b (8 * b.length) ++ [(67, .bool false)] ∧ zbHp L b cb tb (roB c (.pb r) 1 1) H)
  · refine (piece (zb_loop e ts L b cb tb _ H hn (by omega) ⟨h0, l0, tg, hL⟩) _ rfl).mono ?_
    rintro out (h | ⟨q1, q2, q3, q4⟩)
    · exact .inl h
    · refine .inr ⟨q1, q2, ?_⟩
      rw [show rdBm b r ts = ([], 5) by unfold rdBm; rw [if_pos q3]]
      exact q4
  rintro fr H ⟨hz, rfl, hH⟩
  apply Tells.assoc
  apply Tells.seq (fr' := nzFr e ts L 0) (H' := H)
  · unfold zbFr nzFr tyA t12
    generalize ts.map Ty.pay = T at *
    generalize 8 * b.length = m8 at *
    (refine ⟨0, ?_⟩; simp (maxSteps := 2000000) -implicitDefEqProofs [-getElem?_pos, List.getElem?_cons_zero, List.getElem?_cons_succ, go_sem, eqV, plen, loadV, storeV, hTl])
  apply Tells.or (P := fun fr H => (List.range ts.length).any (nzB b ts) = false ∧ fr = nzFr e ts L ts.length ++ [(87, .bool false)] ∧ zbHp L b cb tb (roB c (.pb r) 1 1) H)
  · refine (piece (nz_loop e ts L b cb tb _ H hn (by omega) (by omega) h256 hH) _ rfl).mono ?_
    rintro out (h | ⟨q1, q2, q3, q4⟩)
    · exact .inl h
    · refine .inr ⟨q1, q2, ?_⟩
      rw [show rdBm b r ts = ([], 5) by unfold rdBm; rw [if_neg (by rw [hz]; simp), if_pos q3]]
      exact q4
  rintro fr H ⟨hz2, rfl, g0, _, tg2, gL⟩
  have hrb : rdBm b r ts = rwZ (rbF (fun i => bitB b (i + 2)) ts ts.length 0 [] r) := by unfold rdBm; rw [if_neg (by rw [hz]; simp), if_neg (by rw [hz2]; simp)]
  rw [hrb]
  have gLl := at_lt gL
  apply Tells.seq (fr' := [(1, tyA e ts), (2, .ptr 0 0 0 0), (12, t12 L), (16, .sl H.length 0 0 0)]) (H' := H ++ [some nilV])
  · unfold nzFr tyA t12
    generalize ts.map Ty.pay = T at *
    (refine ⟨0, ?_⟩; simp (maxSteps := 2000000) -implicitDefEqProofs [-getElem?_pos, List.getElem?_cons_zero, List.getElem?_cons_succ, go_sem, eqV, plen, loadV, storeV, assignV, emV])
  apply Tells.assoc
  apply Tells.seq (fr' := bvFr e ts L H.length 0) (H' := H ++ [some nilV])
  · unfold bvFr tyA t12
    generalize ts.map Ty.pay = T at *
    (refine ⟨0, ?_⟩; simp (maxSteps := 2000000) -implicitDefEqProofs [-getElem?_pos, List.getElem?_cons_zero, List.getElem?_cons_succ, go_sem, eqV, plen, loadV, storeV, hTl])
  have hB : BvHp c L H.length b cb tb (H ++ [some nilV]) [] r := ⟨at_cat g0, ⟨tg2, at_cat gL⟩, ⟨nilV, by simp, nilV_rw⟩, l0, by omega, by omega⟩
  apply Tells.or (P := fun fr H' => ∃ a r', a.length = ts.length ∧ fr = bvFr e ts L H.length ts.length ++ [(105, .bool false)] ∧ rbF (fun i => bitB b (i + 2)) ts ts.length 0 [] r = (a, r', 0) ∧ BvHp c L H.length b cb tb H' a r')
  · refine (piece (bv_loop c e ts L H.length b cb tb r _ hn (by omega) (by omega) h256 hc hr hB) _ rfl).mono ?_
    rintro out (h | ⟨q1, q2, er, he, q3, q4⟩)
    · exact .inl h
    · refine .inr ⟨q1, q2, ?_⟩
      rw [q3, show rwZ ([], [], er) = ([], er) by unfold rwZ; rw [if_pos he]]
      exact q4
  rintro fr H' ⟨a, r', ha, rfl, hX, hH'⟩
  rw [hX]
  have k0 := hH'.h0
  obtain ⟨ob, k1, hw⟩ := hH'.hk
  generalize H.length = K at *
  cases r' with
  | cons y r' =>
    have hp : (0 : Int) < ((r'.length + 1 : Nat) : Int) := by omega
    have hp2 : (0 : Int) < (r'.length : Int) + 1 := by omega
    rw [show rwZ (a, y :: r', 0) = ([], 5) by unfold rwZ; simp]
    refine Tells.of (o := ⟨.ret, [(4, .sl H'.length 0 0 0), (5, .int .i64 5)], H' ++ [some nilV]⟩) ?_ ⟨rfl, H'.length, 0, nilV, rfl, rfl, by simp, nilV_rw⟩
    apply Run.seq_out (hne := by simp)
    unfold bvFr tyA t12
    generalize ts.map Ty.pay = T at *
    refine ⟨0, ?_⟩
    simp (maxSteps := 2000000) -implicitDefEqProofs [-getElem?_pos, List.getElem?_cons_zero, List.getElem?_cons_succ, go_sem, eqV, plen, loadV, storeV, k0, roB, hp, hp2, assignV, emV]
  | nil =>
    rw [show rwZ (a, [], 0) = (a, 0) by unfold rwZ; simp]
    refine Tells.of (o := ⟨.ret, [(4, .sl K 0 ts.length ts.length), (5, .int .i64 0)], H'⟩) ⟨0, ?_⟩ ⟨rfl, K, ts.length, ob, by simp [getF, ha], rfl, k1, by rw [← ha]; exact hw⟩
    unfold bvFr tyA t12
    generalize ts.map Ty.pay = T at *
    simp (maxSteps := 2000000) -implicitDefEqProofs [-getElem?_pos, List.getElem?_cons_zero, List.getElem?_cons_succ, go_sem, eqV, plen, loadV, storeV, k0, roB, assignV]

/-- behind the first byte -/
def brF1 (v : AV) (er : Int) (tl : AM.Frame) : AM.Frame := [(1, tyA e ts), (2, .ptr 0 0 0 0), (8, .fn 28 [.ptr 0 0 0 0]), (9, v), (10, .int .i64 er)] ++ tl

set_option maxRecDepth 100000 in
set_option maxHeartbeats 8000000 in
/-- the first byte, the bits -/
theorem br_head (b : List UInt8) (H : AM.Heap) (hn : ts.length ≤ 4096) (h256 : ∀ t ∈ ts, t.t < 256) (hc : c = 0 → b = []) (hr : b.length ≤ 90000000) (h0 : H[0]? = some (some (roB c (.pb b) 1 0))) (hk : ts.any noK = false) :
    ∃ code, ((Try.f16.body).bind (codeAt [1, 1, 1])) = some code ∧
      Tells (Rets (ytQ (rdBin b ts))) X (evT X) 16 0 code (kdFr e ts ts.length ++ [(28, .bool false)]) H := by
  refine ⟨_, rfl, ?_⟩
  have hTl : (ts.map Ty.pay).length = ts.length := List.length_map _
  apply Tells.seq (fr' := [(1, tyA e ts), (2, .ptr 0 0 0 0), (8, .fn 28 [.ptr 0 0 0 0])]) (H' := H)
  · unfold kdFr tyA
    generalize ts.map Ty.pay = T at *
    (refine ⟨0, ?_⟩; simp (maxSteps := 2000000) -implicitDefEqProofs [-getElem?_pos, List.getElem?_cons_zero, List.getElem?_cons_succ, go_sem, eqV, plen, loadV, storeV, assignV, scalars, scalar])
  have hkk : ¬ (ts.any fun t => decide (kindN t.t t.u < 0)) = true := by
    have : (ts.any fun t => decide (kindN t.t t.u < 0)) = false := hk
    rw [this]; simp
  have hrd0 : rdBin [] ts = ([], 4) := by unfold rdBin; rw [if_neg (by omega), if_neg hkk]
  have hrd1 : ∀ y r, rdBin (y :: r) ts = if y ≠ 0 then ([], 5) else if r.length < (ts.length + 9) / 8 then ([], 4) else rdBm (r.take ((ts.length + 9) / 8)) (r.drop ((ts.length + 9) / 8)) ts := by
    intro y r; unfold rdBin; rw [if_neg (by omega), if_neg hkk]
  match b, hc, hr, h0 with
  | [], hc, hr, h0 =>
    rw [hrd0]
    obtain ⟨ob, hA⟩ := take_ev' (N := 1) (n := 1) rfl h0 (by simp)
    refine Tells.of (o := ⟨.ret, [(4, .sl (H.length + 1) 0 0 0), (5, .int .i64 4)], upd H 0 (some (roB c (.pb []) 1 1)) ++ [some ob] ++ [some nilV]⟩) ?_ ⟨rfl, H.length + 1, 0, nilV, rfl, rfl, by rw [show H.length + 1 = (upd H 0 (some (roB c (.pb []) 1 1)) ++ [some ob]).length by simp [upd]]; simp, nilV_rw⟩
    have hul : (upd H 0 (some (roB c (.pb []) 1 1))).length = H.length := by simp [upd]
    generalize upd H 0 (some (roB c (.pb []) 1 1)) = HU at *
    apply Run.seq (fr' := brF1 e ts (.sl H.length 0 0 0) 4 []) (H' := HU ++ [some ob])
    · unfold brF1 tyA
      generalize ts.map Ty.pay = T at *
      (refine ⟨0, ?_⟩; simp (maxSteps := 2000000) -implicitDefEqProofs [-getElem?_pos, List.getElem?_cons_zero, List.getElem?_cons_succ, go_sem, eqV, plen, loadV, storeV, hA, assignV])
    apply Run.seq_out (hne := by simp)
    unfold brF1 tyA
    generalize ts.map Ty.pay = T at *
    refine ⟨0, ?_⟩
    simp (maxSteps := 2000000) -implicitDefEqProofs [-getElem?_pos, List.getElem?_cons_zero, List.getElem?_cons_succ, go_sem, eqV, plen, loadV, storeV, hul, assignV, emV]
  | y :: r, hc, hr, h0 =>
    rw [hrd1]
    have hA := take_ev (N := 1) (n := 1) rfl h0 hc (by simp) hr
    have c0 : c ≠ 0 := fun h => by have := hc h; simp at this
    rw [show c2 c = 2 by unfold c2; rw [if_neg c0]] at hA
    simp only [List.take_succ_cons, List.take_zero, List.drop_succ_cons, List.drop_zero] at hA
    have g0 : (upd H 0 (some (roB c (.pb r) 1 1)))[0]? = some (some (roB c (.pb r) 1 1)) := at_set h0
    generalize upd H 0 (some (roB c (.pb r) 1 1)) = HU at *
    apply Tells.seq (fr' := brF1 e ts (.ro 2 (.pb [y]) 1) 0 []) (H' := HU)
    · unfold brF1 tyA
      generalize ts.map Ty.pay = T at *
      (refine ⟨0, ?_⟩; simp (maxSteps := 2000000) -implicitDefEqProofs [-getElem?_pos, List.getElem?_cons_zero, List.getElem?_cons_succ, go_sem, eqV, plen, loadV, storeV, hA, assignV])
    by_cases hy : y = 0
    · subst hy
      simp only [ne_eq, not_true_eq_false, if_false]
      apply Tells.seq (fr' := [(1, tyA e ts), (2, .ptr 0 0 0 0), (8, .fn 28 [.ptr 0 0 0 0]), (45, .bool false)]) (H' := HU)
      · unfold brF1 tyA
        generalize ts.map Ty.pay = T at *
        (refine ⟨0, ?_⟩; simp (maxSteps := 2000000) -implicitDefEqProofs [-getElem?_pos, List.getElem?_cons_zero, List.getElem?_cons_succ, go_sem, eqV, plen, loadV, storeV, assignV])
      have w7 : IntKind.i64.wrap ((ts.length : Int) + 9) = ((ts.length + 9 : Nat) : Int) := by rw [wrap_i64 (by omega) (by omega)]; omega
      have w8 : IntKind.i64.wrap (((ts.length + 9 : Nat) : Int) / 8) = (((ts.length + 9) / 8 : Nat) : Int) := by
        rw [wrap_i64 (by omega) (by omega)]; omega
      have hm : (ts.length + 9) / 8 ≤ 1000 := by omega
      generalize hn7 : ts.length + 9 = n7 at *
      generalize hm8 : n7 / 8 = m8 at *
      by_cases hl : r.length < m8
      · rw [if_pos hl]
        obtain ⟨ob, hB⟩ := take_ev' (N := (m8 : Nat)) (n := m8) rfl g0 hl
        refine Tells.of (o := ⟨.ret, [(4, .sl (HU.length + 2) 0 0 0), (5, .int .i64 4)], upd HU 0 (some (roB c (.pb r) 1 1)) ++ [some ob] ++ [some ⟨.pc [.sl HU.length 0 0 0], 0, some 1, 1, false, true, 0⟩] ++ [some nilV]⟩) ?_ ⟨rfl, HU.length + 2, 0, nilV, rfl, rfl, by rw [show HU.length + 2 = (upd HU 0 (some (roB c (.pb r) 1 1)) ++ [some ob] ++ [some (⟨.pc [.sl HU.length 0 0 0], 0, some 1, 1, false, true, 0⟩ : AM.Obj)]).length by simp [upd]]; simp, nilV_rw⟩
        have hul : (upd HU 0 (some (roB c (.pb r) 1 1))).length = HU.length := by simp [upd]
        have hnew : ∀ x : Option AM.Obj, (upd HU 0 (some (roB c (.pb r) 1 1)) ++ [some ob, x])[HU.length + 1]? = some x := fun x => by rw [← hul, List.getElem?_append_right (by omega)]; simp
        have hset : ∀ x y : Option AM.Obj, (upd HU 0 (some (roB c (.pb r) 1 1)) ++ [some ob, x]).set (HU.length + 1) y = upd HU 0 (some (roB c (.pb r) 1 1)) ++ [some ob, y] := fun x y => by rw [← hul, List.set_append_right _ _ (by omega)]; simp
        generalize upd HU 0 (some (roB c (.pb r) 1 1)) = HV at *
        apply Run.seq (fr' := [(1, tyA e ts), (2, .ptr 0 0 0 0), (10, .int .i64 4), (11, .ptr (HU.length + 1) 0 0 0)]) (H' := HV ++ [some ob] ++ [some ⟨.pc [.sl HU.length 0 0 0], 0, some 1, 1, false, true, 0⟩])
        · unfold tyA
          generalize ts.map Ty.pay = T at *
          (refine ⟨0, ?_⟩; simp (maxSteps := 2000000) -implicitDefEqProofs [-getElem?_pos, List.getElem?_cons_zero, List.getElem?_cons_succ, go_sem, eqV, plen, loadV, storeV, hTl, w7, w8, hB, hul, hnew, hset, splice, scalars, scalar, flatCells, assignV])
        apply Run.seq_out (hne := by simp)
        unfold tyA
        generalize ts.map Ty.pay = T at *
        refine ⟨0, ?_⟩
        simp (maxSteps := 2000000) -implicitDefEqProofs [-getElem?_pos, List.getElem?_cons_zero, List.getElem?_cons_succ, go_sem, eqV, plen, loadV, storeV, hul, assignV, emV]
      · rw [if_neg hl]
        have hB := take_ev (N := (m8 : Nat)) (n := m8) rfl g0 (fun h => absurd h c0) (by omega) (by rw [List.length_cons] at hr; omega)
        rw [show c2 c = 2 by unfold c2; rw [if_neg c0]] at hB
        have k0 : (upd HU 0 (some (roB c (.pb (r.drop m8)) 1 1)))[0]? = some (some (roB c (.pb (r.drop m8)) 1 1)) := at_set g0
        have hul : (upd HU 0 (some (roB c (.pb (r.drop m8)) 1 1))).length = HU.length := by simp [upd]
        have hnew : ∀ x : Option AM.Obj, (upd HU 0 (some (roB c (.pb (r.drop m8)) 1 1)) ++ [x])[HU.length]? = some x := fun x => by rw [← hul]; simp
        have hpos := at_lt g0
        generalize upd HU 0 (some (roB c (.pb (r.drop m8)) 1 1)) = HV at *
        apply Tells.seq (fr' := [(1, tyA e ts), (2, .ptr 0 0 0 0), (10, .int .i64 0), (11, .ptr HU.length 0 0 0)]) (H' := HV ++ [some (roB 2 (.pb (r.take m8)) 1 0)])
        · unfold tyA
          generalize ts.map Ty.pay = T at *
          (refine ⟨0, ?_⟩; simp (maxSteps := 2000000) -implicitDefEqProofs [-getElem?_pos, List.getElem?_cons_zero, List.getElem?_cons_succ, go_sem, eqV, plen, loadV, storeV, hTl, w7, w8, hB, hul, hnew, roB, splice, scalars, scalar, flatCells, assignV])
        apply Tells.seq (fr' := [(1, tyA e ts), (2, .ptr 0 0 0 0), (10, .int .i64 0), (11, .ptr HU.length 0 0 0), (60, .bool false)]) (H' := HV ++ [some (roB 2 (.pb (r.take m8)) 1 0)])
        · apply Run.seq (fr' := [(1, tyA e ts), (2, .ptr 0 0 0 0), (10, .int .i64 0), (11, .ptr HU.length 0 0 0), (60, .bool false)]) (H' := HV ++ [some (roB 2 (.pb (r.take m8)) 1 0)])
          · unfold tyA
            generalize ts.map Ty.pay = T at *
            (refine ⟨0, ?_⟩; simp (maxSteps := 2000000) -implicitDefEqProofs [-getElem?_pos, List.getElem?_cons_zero, List.getElem?_cons_succ, go_sem, eqV, plen, loadV, storeV])
          · exact condF (by simp [evalO, getF]) ⟨0, rfl⟩
        exact piece (br_tail c e ts (r.take m8) (r.drop m8) HU.length 2 1 (HV ++ [some (roB 2 (.pb (r.take m8)) 1 0)]) hn (by rw [List.length_take]; omega) h256 (fun h => absurd h c0) (by rw [List.length_drop]; rw [List.length_cons] at hr; omega) (at_cat k0) ⟨0, hnew _⟩ hpos) _ rfl
    · have hyb : ((y.toNat : Int) != 0) = true := by
        have : y.toNat ≠ 0 := fun h => hy (UInt8.toNat.inj (by rw [h]; rfl))
        simp; omega
      rw [if_pos hy]
      refine Tells.of (o := ⟨.ret, [(4, .sl HU.length 0 0 0), (5, .int .i64 5)], HU ++ [some nilV]⟩) ?_ ⟨rfl, HU.length, 0, nilV, rfl, rfl, by simp, nilV_rw⟩
      apply Run.seq_out (hne := by simp)
      unfold brF1 tyA
      generalize ts.map Ty.pay = T at *
      refine ⟨0, ?_⟩
      simp (maxSteps := 2000000) -implicitDefEqProofs [-getElem?_pos, List.getElem?_cons_zero, List.getElem?_cons_succ, go_sem, eqV, plen, loadV, storeV, hyb, assignV, emV]

end

end Go.Proofs.Ytafdnpcamepbmaa

/- Walks: a binary row read: its event. -/
namespace Go.Proofs.Ytafdnpcamepbmaa
open Go.AM
set_option linter.unusedSimpArgs false
set_option linter.unusedVariables false

section
variable (c e : Nat) (ts : List Ty)

set_option maxRecDepth 100000 in
set_option maxHeartbeats 4000000 in
theorem brd_code (b : List UInt8) (hc : c = 0 → b = []) (hb : b.length ≤ 90000000) (h256 : ∀ t ∈ ts, t.t < 256) : ∃ code, Try.f16.body = some code ∧
    Tells (Rets (ytQ (rdBin b ts))) X (evT X) 16 0 code [(0, .ro c (.pb b) 1), (1, .ro e (.pr 2 (ts.map Ty.pay)) 2)] [] := by
  refine ⟨_, rfl, ?_⟩
  have hTl : (ts.map Ty.pay).length = ts.length := List.length_map _
  apply Tells.seq (fr' := [(1, tyA e ts), (2, .ptr 0 0 0 0)]) (H' := [some (roB c (.pb b) 1 0), some nilV])
  · unfold tyA
    generalize ts.map Ty.pay = T at *
    (refine ⟨0, ?_⟩; simp (maxSteps := 2000000) -implicitDefEqProofs [-getElem?_pos, List.getElem?_cons_zero, List.getElem?_cons_succ, go_sem, eqV, plen, loadV, storeV, assignV, emV, roB])
  by_cases h5 : 4096 < ts.length
  · rw [show rdBin b ts = ([], 3) by unfold rdBin; rw [if_pos h5]]
    refine Tells.of (o := ⟨.ret, [(4, .sl 2 0 0 0), (5, .int .i64 3)], [some (roB c (.pb b) 1 0), some nilV, some nilV]⟩) ?_ ⟨rfl, 2, 0, nilV, rfl, rfl, rfl, nilV_rw⟩
    apply Run.seq_out (hne := by simp)
    have h5i : (4096 : Int) < (ts.length : Int) := by omega
    unfold tyA
    generalize ts.map Ty.pay = T at *
    refine ⟨0, ?_⟩
    simp (maxSteps := 2000000) -implicitDefEqProofs [-getElem?_pos, List.getElem?_cons_zero, List.getElem?_cons_succ, go_sem, eqV, plen, loadV, storeV, assignV, emV, h5i, hTl]
  have h5i : ¬ (4096 : Int) < (ts.length : Int) := by omega
  apply Tells.seq (fr' := [(1, tyA e ts), (2, .ptr 0 0 0 0), (24, .bool false)]) (H' := [some (roB c (.pb b) 1 0), some nilV])
  · unfold tyA
    generalize ts.map Ty.pay = T at *
    (refine ⟨0, ?_⟩; simp (maxSteps := 2000000) -implicitDefEqProofs [-getElem?_pos, List.getElem?_cons_zero, List.getElem?_cons_succ, go_sem, eqV, plen, loadV, storeV, h5i, hTl])
  apply Tells.assoc
  apply Tells.seq (fr' := kdFr e ts 0) (H' := [some (roB c (.pb b) 1 0), some nilV])
  · unfold kdFr tyA
    generalize ts.map Ty.pay = T at *
    (refine ⟨0, ?_⟩; simp (maxSteps := 2000000) -implicitDefEqProofs [-getElem?_pos, List.getElem?_cons_zero, List.getElem?_cons_succ, go_sem, eqV, plen, loadV, storeV, hTl])
  apply Tells.or (P := fun fr H => ts.any noK = false ∧ fr = kdFr e ts ts.length ++ [(28, .bool false)] ∧ H[0]? = some (some (roB c (.pb b) 1 0)))
  · refine (piece (kd_loop e ts (roB c (.pb b) 1 0) [some (roB c (.pb b) 1 0), some nilV] rfl (by omega) h256) _ rfl).mono ?_
    rintro out (h | ⟨q1, q2, q3, q4⟩)
    · exact .inl h
    · refine .inr ⟨q1, q2, ?_⟩
      rw [show rdBin b ts = ([], 2) by
        unfold rdBin
        rw [if_neg h5, if_pos (show (ts.any fun t => decide (kindN t.t t.u < 0)) = true from q3)]]
      exact q4
  rintro fr H ⟨hk, rfl, h0⟩
  exact piece (br_head c e ts b H (by omega) h256 hc hb h0 hk) _ rfl

end

theorem brd_ev {H : AM.Heap} {a A : AV} {b : List UInt8} {ts : List Ty} (h : Byt H a b) (hA : RoT H A ts) (hb : b.length ≤ 90000000) (h256 : ∀ t ∈ ts, t.t < 256) :
    ∃ ob, Rw (.pr 12 ((rdBin b ts).1.map Va.pay)) 0 ob ∧ evT X 16 [a, A] H = some (.tup [.sl H.length 0 (rdBin b ts).1.length 0, .int .i64 (rdBin b ts).2], H ++ [some ob]) := by
  obtain ⟨e, pt, xt, hpt, he, hxt⟩ := args_t (f := 16) (i := 1) rfl hA (args_nil 2)
  obtain ⟨c, p, xl, hp, hc, hx'⟩ := args_byt (C := X) (f := 16) (i := 0) rfl h hxt
  obtain ⟨code, hcode, hr⟩ := brd_code c e ts b hc hb h256
  have hid := va_tags (rdBin b ts).1
  obtain ⟨ob, q1, q2⟩ := Ev1.newR (H := H) (n := (rdBin b ts).1.length) (es := 12) (l := (rdBin b ts).1.map Va.pay) (rest := [.int .i64 (rdBin b ts).2]) (evT_below X) Try.func16 hcode hx' (by simp [idsL, ids, hp.ids, hpt.ids]) (by simp [gtag]) rfl rfl rfl hid.1 hid.2 (by
    obtain ⟨o, ⟨he, o1, g1, ob, q1, q2, q4, q5⟩, hrun⟩ := hr
    exact ⟨o, ⟨he, o1, g1, ob, by show some [getF o.fr 4, getF o.fr 5] = _; rw [q1, q2], q4, q5⟩, by rw [par16, coB hp, coT hpt, coerce_nil]; exact hrun⟩)
  exact ⟨ob, q1, evT_eq q2⟩

end Go.Proofs.Ytafdnpcamepbmaa

/- Walks: the law RowBack: a binary row. -/
namespace Go.Proofs.Ytafdnpcamepbmaa
open Go.AM
set_option linter.unusedSimpArgs false
set_option linter.unusedVariables false

section
variable (d : Nat) (l : List Va) (e : Nat) (ts : List Ty) (cut : Int) (y : UInt8)

theorem bnB_pos (l : List Pm) : 0 < (bnB l).length := by unfold bnB; rw [List.length_cons]; omega

set_option maxRecDepth 100000 in
set_option maxHeartbeats 8000000 in
theorem bb_half (H : AM.Heap) (o : Nat) (ob1 : AM.Obj) (ps : List Pm) (hd : d = 0 → l = []) (he : e = 0 → ts = []) (hl : l.length ≤ 60) (hlt : l.length = ts.length) (hv : vaR ps = l) (ht : tyR ps = ts) (hok : OkR ps) (h256 : ∀ t ∈ ts, t.t < 256) (hT : (bnB ps).length ≤ 1000000) (ho : H[o]? = some (some ob1)) (hw : Rw (.pb (bnB ps)) 0 ob1) :
    ∃ code, ((Try.f4.body).bind (codeAt [1, 1, 1, 1, 1, 1, 1, 1])) = some code ∧
      Tells (Rets fun fr H => getF fr 8 = .bool true) X (evT X) 4 0 code (rkB d l e ts cut y ++ [(9, .sl o 0 (bnB ps).length 0), (97, .bool false)]) H := by
  refine ⟨_, rfl, ?_⟩
  have hN1 := bnB_pos ps
  have hpl : ps.length = l.length := by rw [← hv]; simp [vaR]
  have hTT : ∀ H, RoT H (.ro e (.pr 2 (ts.map Ty.pay)) 2) ts := fun H => RoRow.ro fun h => by rw [he h]; rfl
  have hB := bn_back (by omega) hok []
  rw [List.append_nil, if_pos rfl, hv, ht] at hB
  obtain ⟨ob2, hw2, hR1⟩ := brd_ev (H := H) (a := .sl o 0 (bnB ps).length 0) (b := bnB ps) (ts := ts) (Byt.whole ho hw) (hTT _) (by omega) h256
  rw [hB] at hw2 hR1
  simp only at hw2 hR1
  have ho2 : (H ++ [some ob2])[o]? = some (some ob1) := at_cat ho
  have hpk := pick_ev (H := H ++ [some ob2]) cut (bnB ps).length hN1 (by omega)
  have hpi := pk_in (x := cut) (n := ((bnB ps).length : Nat)) (by omega)
  obtain ⟨k, hk⟩ : ∃ k : Nat, pkI cut ((bnB ps).length : Nat) = (k : Nat) := ⟨(pkI cut ((bnB ps).length : Nat)).toNat, by omega⟩
  rw [hk] at hpk hpi
  have hsl := slOwn (k := k) ho2 hw rfl (by omega)
  have hBk : Byt (H ++ [some ob2]) (.sl o 0 k 0) ((bnB ps).take k) := Byt.sl ho2 hw (by simp) (by omega)
  obtain ⟨ob4, hw4, hR3⟩ := brd_ev (H := H ++ [some ob2]) (b := (bnB ps).take k) (ts := ts) hBk (hTT _) (by rw [List.length_take]; omega) h256
  have hless := bn_less (k := k) (by omega) hok (by omega)
  rw [ht] at hless
  rw [hless] at hR3
  simp only at hR3
  have ho3 : (H ++ [some ob2] ++ [some ob4])[o]? = some (some ob1) := at_cat ho2
  obtain ⟨obx, hA1, hA2, hBx⟩ := more_ev y ho3 hw hT
  obtain ⟨ob3, hw3, hR2⟩ := brd_ev (H := H ++ [some ob2] ++ [some ob4] ++ [some obx]) (b := bnB ps ++ [y]) (ts := ts) hBx (hTT _) (by simp; omega) h256
  have hmo := bn_back (by omega) hok [y]
  rw [if_neg (by simp), ht] at hmo
  rw [hmo] at hR2
  simp only at hR2
  have hS := same_ev (H := H ++ [some ob2] ++ [some ob4] ++ [some obx] ++ [some ob3]) (a := .ro d (.pr 12 (l.map Va.pay)) 1) (a2 := .sl H.length 0 l.length 0) (l := l) (RoRow.ro fun h => by rw [hd h]; rfl) (by
      have := RoRow.whole (H := H ++ [some ob2] ++ [some ob4] ++ [some obx] ++ [some ob3]) (o := H.length) (at_cat (at_cat (at_cat (by simp)))) hw2
      rwa [List.length_map] at this) (by omega)
  have hby := fun H => bs1 H y
  have hb0 := fun H => bs0 H
  have hcl : (H ++ [some ob2] ++ [some ob4]).length = H.length + 2 := by simp
  have hcl1 : (H ++ [some ob2]).length = H.length + 1 := by simp
  have hcl2 : (H ++ [some ob2] ++ [some ob4] ++ [some obx]).length = H.length + 3 := by simp
  rw [hcl] at hA1 hA2 hR2
  rw [hcl1] at hR3
  rw [hcl2] at hR2
  unfold rkB
  generalize l.map Va.pay = L at *
  generalize ts.map Ty.pay = T at *
  apply Tells.seq (fr' := [(0, .ro d (.pr 12 L) 1), (1, .ro e (.pr 2 T) 2), (2, .int .i64 cut), (3, .int .u8 (y.toNat : Nat)), (9, .sl o 0 (bnB ps).length 0), (17, .sl H.length 0 l.length 0), (18, .int .i64 0)]) (H' := H ++ [some ob2])
  · generalize (bnB ps).length = N at *
    (refine ⟨0, ?_⟩; simp (maxSteps := 2000000) -implicitDefEqProofs [-getElem?_pos, List.getElem?_cons_zero, List.getElem?_cons_succ, go_sem, eqV, plen, loadV, storeV, hR1, assignV])
  apply Tells.seq (fr' := [(0, .ro d (.pr 12 L) 1), (1, .ro e (.pr 2 T) 2), (3, .int .u8 (y.toNat : Nat)), (9, .sl o 0 (bnB ps).length 0), (17, .sl H.length 0 l.length 0), (18, .int .i64 0), (20, .int .i64 4)]) (H' := H ++ [some ob2] ++ [some ob4])
  · generalize (bnB ps).length = N at *
    generalize H ++ [some ob2] ++ [some ob4] = Hc at *
    generalize H ++ [some ob2] = Hz at *
    (refine ⟨0, ?_⟩; simp (maxSteps := 2000000) -implicitDefEqProofs [-getElem?_pos, List.getElem?_cons_zero, List.getElem?_cons_succ, go_sem, eqV, plen, loadV, storeV, ho2, hw.g, hpk, hsl, hR3, assignV])
  apply Tells.seq (fr' := [(0, .ro d (.pr 12 L) 1), (17, .sl H.length 0 l.length 0), (18, .int .i64 0), (20, .int .i64 4), (22, .int .i64 5)]) (H' := H ++ [some ob2] ++ [some ob4] ++ [some obx] ++ [some ob3])
  · generalize (bnB ps).length = N at *
    generalize H ++ [some ob2] ++ [some ob4] ++ [some (⟨.pb (bnB ps), 0, .none, 1, true, false, 0⟩ : AM.Obj)] = Ha at *
    generalize H ++ [some ob2] ++ [some ob4] ++ [some obx] ++ [some ob3] = Hd at *
    generalize H ++ [some ob2] ++ [some ob4] ++ [some obx] = Hb at *
    generalize H ++ [some ob2] ++ [some ob4] = Hc at *
    (refine ⟨0, ?_⟩; simp (maxSteps := 2000000) -implicitDefEqProofs [-getElem?_pos, List.getElem?_cons_zero, List.getElem?_cons_succ, go_sem, eqV, plen, loadV, storeV, hb0, hby, hA1, hA2, hR2, assignV])
  generalize H ++ [some ob2] ++ [some ob4] ++ [some obx] ++ [some ob3] = H3 at *
  refine Tells.of (o := ⟨.ret, [(8, .bool true)], H3⟩) ⟨0, ?_⟩ ⟨rfl, rfl⟩
  simp (maxSteps := 2000000) -implicitDefEqProofs [-getElem?_pos, List.getElem?_cons_zero, List.getElem?_cons_succ, go_sem, eqV, plen, loadV, storeV, hS]

end

end Go.Proofs.Ytafdnpcamepbmaa
