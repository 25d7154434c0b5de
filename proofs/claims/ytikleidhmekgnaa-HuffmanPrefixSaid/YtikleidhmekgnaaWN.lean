/- Walks: reader's function, a symbol read. -/
import Derived.Test.YtikleidhmekgnaaWM
namespace Go.Proofs.Ytikleidhmekgnaa
open Go.AM
set_option linter.unusedSimpArgs false
set_option linter.unusedVariables false

/-- the lengths that there are -/
def presL (l : List Int) : List Int := xs16.filter (fun x => decide (x ∈ l))

/-- reader's objects, d ahead of them, under tags -/
def nH (c : Nat) (b : List UInt8) (a m : Int) (n f l : List Int) (d t tb tn : Nat) : AM.Heap :=
  [boxV (.int .i64 m) t, boxV (.int .i64 a) t, boxV (.ro c (.pb b) tb) t, arrI 17 f t, arrI 16 n t, arrS (xs16.map (syV (d + 6) tn (presL l) l false)) t] ++ (presL l).map fun x => pRow (posL x l 0) 0 t

/-- the program's reading of a symbol, and where it stands then -/
def pdecL (l n f : List Int) (b : List UInt8) (a : Nat) : Nat → Nat → Int → (Int × Int × Int) × Nat
  | 0, i, _ => ((0, 0, 5), a + i - 1)
  | k + 1, i, code => if 8 * b.length ≤ a + i - 1 then ((0, 0, 4), a + i - 1) else
    if 0 ≤ 2 * code + rbit b (a + i - 1) - f.getD i 0 ∧ 2 * code + rbit b (a + i - 1) - f.getD i 0 < n.getD i 0 then
      (((posL i l 0).getD (2 * code + rbit b (a + i - 1) - f.getD i 0).toNat 0, i, 0), a + i)
    else pdecL l n f b a k (i + 1) (2 * code + rbit b (a + i - 1))

theorem or_bit (c x : Nat) (h : x ≤ 1) : (2 * c) ||| x = 2 * c + x := by
  have := Nat.shiftLeft_add_eq_or_of_lt (i := 1) (b := x) (by omega) c
  rw [Nat.shiftLeft_eq, Nat.pow_one, Nat.mul_comm] at this
  exact this.symm

theorem bits8_nat {v : Nat} (h : v < 256) : (AM.bits .u8 (v : Int)).toNat = v := by
  unfold AM.bits
  simp [IntKind.bits]
  omega

theorem bits8_one : (AM.bits .u8 1).toNat = 1 := by decide

theorem posL_len : ∀ (l : List Int) (x : Int) (i : Nat), (posL x l i).length = l.count x
  | [], x, i => by simp [posL]
  | y :: r, x, i => by
    simp only [posL, List.count_cons]
    by_cases h : y = x
    · simp [h, posL_len r x (i + 1)]
    · simp [h, posL_len r x (i + 1)]

def nxFr (code : Int) (i : Nat) : AM.Frame := [(0, .ptr 0 0 0 0), (1, .ptr 1 0 0 0), (2, .ptr 2 0 0 0), (3, .ptr 3 0 0 0), (4, .ptr 4 0 0 0), (5, .ptr 5 0 0 0), (9, .int .i64 code), (10, .int .i64 (i : Nat))]

def nxO (c : Nat) (b : List UInt8) (m : Int) (n f l : List Int) (t : Nat) (r : (Int × Int × Int) × Nat) : AM.Out :=
  ⟨.ret, [(6, .int .i64 r.1.1), (7, .int .i64 r.1.2.1), (8, .int .i64 r.1.2.2)], nH c b (r.2 : Nat) m n f l 0 t t t⟩

set_option maxRecDepth 100000 in
theorem next_code (T : Cf) (c t mm : Nat) (b : List UInt8) (a : Nat) (m : Int) (n f l : List Int) (hm : 0 ≤ m ∧ m ≤ 15) (hl : l.length ≤ 320) (hn : n.length = 16) (hf : f.length = 17) (hnv : ∀ i : Nat, i < 16 → n.getD i 0 = ct l i)
    (hfv : ∀ i : Nat, i < 16 → 0 ≤ f.getD i 0 ∧ f.getD i 0 < 100000000) (hb : b.length ≤ 100000) (ha : a < 9223372036854775808) : ∃ code, Try.f26.body = some code ∧
    Run X T 26 mm code [(0, .ptr 0 0 0 0), (1, .ptr 1 0 0 0), (2, .ptr 2 0 0 0), (3, .ptr 3 0 0 0), (4, .ptr 4 0 0 0), (5, .ptr 5 0 0 0)] (nH c b (a : Nat) m n f l 0 t t t) (nxO c b m n f l t (pdecL l n f b a m.toNat 1 0)) := by
  refine ⟨_, rfl, ?_⟩
  have hfr : ∀ (code : Int) (i : Nat), nxFr code i = [(0, .ptr 0 0 0 0), (1, .ptr 1 0 0 0), (2, .ptr 2 0 0 0), (3, .ptr 3 0 0 0), (4, .ptr 4 0 0 0), (5, .ptr 5 0 0 0), (9, .int .i64 code), (10, .int .i64 (i : Nat))] := fun _ _ => rfl
  generalize hSA : xs16.map (syV (0 + 6) t (presL l) l false) = A
  generalize hRA : ((presL l).map fun x => pRow (posL x l 0) 0 t) = R
  have hH : ∀ a : Int, nH c b a m n f l 0 t t t = some { p := .pc [.int .i64 m], g := 0, cap := some 1, z := 1, row := false, ids := true, tg := t } :: some { p := .pc [.int .i64 a], g := 0, cap := some 1, z := 1, row := false, ids := true, tg := t } ::
      some { p := .pc [.ro c (.pb b) t], g := 0, cap := some 1, z := 1, row := false, ids := true, tg := t } :: some { p := .pi .i64 f, g := 0, cap := some 17, z := 1, row := false, ids := false, tg := t } :: some { p := .pi .i64 n, g := 0, cap := some 16, z := 1, row := false, ids := false, tg := t } ::
      some { p := .pc A, g := 0, cap := some 16, z := 1, row := false, ids := true, tg := t } :: R := by
    intro a
    rw [← hSA, ← hRA]
    rfl
  apply Run.seq
  · (refine ⟨0, ?_⟩; conv => lhs; simp -implicitDefEqProofs [-getElem?_pos, List.getElem?_cons_zero, List.getElem?_cons_succ, exec, runOps, dstOk, wantedV, AM.step, evalT, evalO, evalArgs, evalParts, getF, putF, afterRegion, assignV, boxOf, newBox, hasIdsP, keepF, ofVal, ofCell, plen, pesz, callV, builtinV, lenV, binV, unV, arith, shiftI, loadV, storeV, putV, indexAddrV, live, upd, pget, pset, psetA, pagg, retag, retagP, byteAV, freezeP, freezeV, joinTags, joinTag, tags, ids, scalar, cellsLen, eqV, convV, faV, fvV, shiftBy, shiftRo, hH])
  apply Run.seq
  · (refine ⟨0, ?_⟩; conv => lhs; simp -implicitDefEqProofs [-getElem?_pos, List.getElem?_cons_zero, List.getElem?_cons_succ, exec, runOps, dstOk, wantedV, AM.step, evalT, evalO, evalArgs, evalParts, getF, putF, afterRegion, assignV, boxOf, newBox, hasIdsP, keepF, ofVal, ofCell, plen, pesz, callV, builtinV, lenV, binV, unV, arith, shiftI, loadV, storeV, putV, indexAddrV, live, upd, pget, pset, psetA, pagg, retag, retagP, byteAV, freezeP, freezeV, joinTags, joinTag, tags, ids, scalar, cellsLen, eqV, convV, faV, fvV, shiftBy, shiftRo])
  apply Run.seq (fr' := nxFr 0 1) (H' := nH c b (a : Nat) m n f l 0 t t t)
  · (refine ⟨0, ?_⟩; simp -implicitDefEqProofs [-getElem?_pos, List.getElem?_cons_zero, List.getElem?_cons_succ, exec, runOps, dstOk, wantedV, AM.step, evalT, evalO, evalArgs, evalParts, getF, putF, afterRegion, assignV, boxOf, newBox, hasIdsP, keepF, ofVal, ofCell, plen, pesz, callV, builtinV, lenV, binV, unV, arith, shiftI, loadV, storeV, putV, indexAddrV, live, upd, pget, pset, psetA, pagg, retag, retagP, byteAV, freezeP, freezeV, joinTags, joinTag, tags, ids, scalar, cellsLen, eqV, convV, faV, fvV, shiftBy, shiftRo, hfr, hH])
  have hout : ∀ r, blockOut 0 (nxO c b m n f l t r) = nxO c b m n f l t r := fun _ => rfl
  rw [← hout]
  apply Run.block'
  refine Run.loop_rule (σ := Nat × Nat × Int) (fun s => s.1 + s.2.1 = m.toNat + 1 ∧ 0 < s.2.1 ∧ 0 ≤ s.2.2 ∧ s.2.2 < 2 ^ (s.2.1 - 1) ∧ (s.2.1 = 1 ∨ a + s.2.1 - 1 ≤ 8 * b.length)) (fun s => nxFr s.2.2 s.2.1) (fun s => nH c b ((a + s.2.1 - 1 : Nat) : Int) m n f l 0 t t t) (fun s => nxO c b m n f l t (pdecL l n f b a s.1 s.2.1 s.2.2)) (fun s => s.1) ?_ (m.toNat, 1, 0) ⟨rfl, by simp, by simp, by simp, .inl rfl⟩
  rintro ⟨k, i, code⟩ ⟨hk, hi0, hc0, hc1, hai⟩
  simp only at hk hi0 hc0 hc1 hai ⊢
  have ha2 : a + i - 1 < 9223372036854775808 := by omega
  have hai2 : a + i - 1 + 1 = a + i := by omega
  have hai3 : a + (i + 1) - 1 = a + i := by omega
  generalize hq : a + i - 1 = q at *
  cases k with
  | zero =>
    right
    refine ⟨?_, by simp [nxO]⟩
    have hgt : m < (i : Int) := by omega
    unfold nxO pdecL
    rw [hq]
    apply Run.seq_out
    · (refine ⟨0, ?_⟩; simp -implicitDefEqProofs [-getElem?_pos, List.getElem?_cons_zero, List.getElem?_cons_succ, exec, runOps, dstOk, wantedV, AM.step, evalT, evalO, evalArgs, evalParts, getF, putF, afterRegion, assignV, boxOf, newBox, hasIdsP, keepF, ofVal, ofCell, plen, pesz, callV, builtinV, lenV, binV, unV, arith, shiftI, loadV, storeV, putV, indexAddrV, live, upd, pget, pset, psetA, pagg, retag, retagP, byteAV, freezeP, freezeV, joinTags, joinTag, tags, ids, scalar, cellsLen, eqV, convV, faV, fvV, shiftBy, shiftRo, hfr, hH, hgt])
    · simp
  | succ k =>
    have hle : ¬ (m < (i : Int)) := by omega
    have hq8 : ((q : Nat) : Int).tdiv 8 = ((q / 8 : Nat) : Int) := by rw [Int.tdiv_eq_ediv_of_nonneg (by omega)]; omega
    have hq8' : ((q : Nat) : Int) / 8 = ((q / 8 : Nat) : Int) := by omega
    by_cases hs : 8 * b.length ≤ q
    · right
      refine ⟨?_, by simp [nxO]⟩
      unfold nxO pdecL
      rw [hq, if_pos hs]
      have hs8 : (b.length : Int) ≤ ((q / 8 : Nat) : Int) := by omega
      have w1 : IntKind.i64.wrap ((q / 8 : Nat) : Int) = ((q / 8 : Nat) : Int) := wrap_i64 (by omega) (by omega)
      generalize q / 8 = q8 at *
      apply Run.seq_out
      · (refine ⟨0, ?_⟩; simp -implicitDefEqProofs [-getElem?_pos, List.getElem?_cons_zero, List.getElem?_cons_succ, exec, runOps, dstOk, wantedV, AM.step, evalT, evalO, evalArgs, evalParts, getF, putF, afterRegion, assignV, boxOf, newBox, hasIdsP, keepF, ofVal, ofCell, plen, pesz, callV, builtinV, lenV, binV, unV, arith, shiftI, loadV, storeV, putV, indexAddrV, live, upd, pget, pset, psetA, pagg, retag, retagP, byteAV, freezeP, freezeV, joinTags, joinTag, tags, ids, scalar, cellsLen, eqV, convV, faV, fvV, shiftBy, shiftRo, hfr, hH, hle, hq8, hq8', w1, hs8])
      · simp
    · have hi15 : i ≤ 15 := by omega
      have hq0 : q / 8 < b.length := by omega
      obtain ⟨y, hget⟩ : ∃ y, b[q / 8]? = some y := ⟨_, List.getElem?_eq_getElem hq0⟩
      have hrb : rbit b q = ((y.toNat / 2 ^ (q % 8) % 2 : Nat) : Int) := by
        unfold rbit
        rw [List.getD_eq_getElem?_getD, hget]; rfl
      have hr8 : q % 8 < 8 := by omega
      have e2 : ((q : Nat) : Int).tmod 8 = ((q % 8 : Nat) : Int) := by rw [Int.tmod_eq_emod_of_nonneg (by omega)]; omega
      have e4 : ((q : Nat) : Int) % 8 = ((q % 8 : Nat) : Int) := by omega
      have w1 : IntKind.i64.wrap ((q / 8 : Nat) : Int) = ((q / 8 : Nat) : Int) := wrap_i64 (by omega) (by omega)
      have w2 : IntKind.i64.wrap ((q % 8 : Nat) : Int) = ((q % 8 : Nat) : Int) := wrap_i64 (by omega) (by omega)
      have hs8 : ¬ (b.length : Int) ≤ ((q / 8 : Nat) : Int) := by omega
      have w9 : IntKind.i64.wrap ((q : Nat) + 1) = ((a + i : Nat) : Int) := by rw [wrap_i64 (by omega) (by omega)]; omega
      have hv : ((y.toNat : Nat) : Int).fdiv (2 ^ (q % 8)) = ((y.toNat / 2 ^ (q % 8) : Nat) : Int) := by
        rw [Int.fdiv_eq_ediv_of_nonneg _ (by exact Int.le_of_lt (Int.pow_pos (by omega)))]; simp
      have hvl : y.toNat / 2 ^ (q % 8) < 256 := Nat.lt_of_le_of_lt (Nat.div_le_self _ _) y.toNat_lt
      have hm8 : min (q % 8) IntKind.u8.bits = q % 8 := by simp [IntKind.bits]; omega
      obtain ⟨cn, rfl⟩ : ∃ cn : Nat, code = (cn : Int) := ⟨code.toNat, by omega⟩
      have hp : (2 : Int) ^ (i - 1) ≤ 2 ^ 14 := by
        have := Nat.pow_le_pow_right (n := 2) (by omega) (show i - 1 ≤ 14 by omega)
        exact_mod_cast this
      have hcn : cn < 16384 := by omega
      have hp2 : (2 : Int) ^ i = 2 * 2 ^ (i - 1) := by
        conv => lhs; rw [show i = (i - 1) + 1 by omega]
        rw [Int.pow_succ]; omega
      generalize q % 8 = r8 at *
      generalize hq8e : q / 8 = q8 at *
      generalize y.toNat / 2 ^ r8 = v at *
      obtain ⟨x, hx⟩ : ∃ x, x = v % 2 := ⟨_, rfl⟩
      have hx1 : x ≤ 1 := by omega
      rw [← hx] at hrb
      have hr0 : ¬ ((r8 : Int) < 0) := by omega
      have hb8 := bits8_nat hvl
      have hU1 : IntKind.u8.wrap ((v &&& 1 : Nat) : Int) = (x : Int) := by rw [Nat.and_one_is_mod, ← hx, wrap_u8 (by omega) (by omega)]
      have hU2 : IntKind.u8.wrap ((v : Int) % 2) = (x : Int) := by rw [wrap_u8 (by omega) (by omega)]; omega
      have hX : IntKind.i64.wrap (x : Int) = (x : Int) := wrap_i64 (by omega) (by omega)
      have hXb := bits_nat (v := x) (by omega)
      obtain ⟨c2, hc2⟩ : ∃ c2, c2 = 2 * cn := ⟨_, rfl⟩
      have hC2 : IntKind.i64.wrap ((cn : Int) * 2) = (c2 : Int) := by rw [wrap_i64 (by omega) (by omega)]; omega
      have hC2b := bits_nat (v := c2) (by omega)
      have hmn : min 1 IntKind.i64.bits = 1 := by decide
      obtain ⟨c3, hc3⟩ : ∃ c3, c3 = 2 * cn + x := ⟨_, rfl⟩
      have hC3 : IntKind.i64.wrap ((c2 ||| x : Nat) : Int) = (c3 : Int) := by rw [hc2, or_bit cn x hx1, ← hc3, wrap_i64 (by omega) (by omega)]
      have hcode : 2 * (cn : Int) + rbit b q = (c3 : Int) := by rw [hrb]; omega
      have hdec : pdecL l n f b a (k + 1) i (cn : Int) = if 0 ≤ (c3 : Int) - f.getD i 0 ∧ (c3 : Int) - f.getD i 0 < n.getD i 0 then
          (((posL i l 0).getD ((c3 : Int) - f.getD i 0).toNat 0, (i : Int), 0), a + i) else pdecL l n f b a k (i + 1) (c3 : Int) := by
        conv => lhs; unfold pdecL
        rw [hq, if_neg hs, hcode]
      have hfi := hfv i (by omega)
      have hni := hnv i (by omega)
      have hfg : f[i]? = some (f.getD i 0) := by rw [List.getD_eq_getElem?_getD, List.getElem?_eq_getElem (by omega)]; rfl
      have hng : n[i]? = some (n.getD i 0) := by rw [List.getD_eq_getElem?_getD, List.getElem?_eq_getElem (by omega)]; rfl
      have hi17 : (i : Int) < 17 := by omega
      have hi16 : (i : Int) < 16 := by omega
      have hK : IntKind.i64.wrap ((c3 : Int) - f.getD i 0) = (c3 : Int) - f.getD i 0 := wrap_i64 (by omega) (by omega)
      have hi1 : IntKind.i64.wrap ((i : Int) + 1) = (i : Int) + 1 := wrap_i64 (by omega) (by omega)
      have hc3p : (c3 : Int) < 2 ^ i := by omega
      generalize f.getD i 0 = fi at *
      generalize hni2 : n.getD i 0 = ni at *
      by_cases hhit : 0 ≤ (c3 : Int) - fi ∧ (c3 : Int) - fi < ni
      · right
        refine ⟨?_, by simp [nxO]⟩
        rw [hdec, if_pos hhit]
        obtain ⟨hk0, hkn⟩ := hhit
        have hin : (i : Int) ∈ l := by
          have h1 : (posL i l 0).length = l.count (i : Int) := posL_len l i 0
          unfold ct at hni
          exact List.count_pos_iff.1 (by omega)
        have hlen : ((posL i l 0).length : Int) = ni := by
          rw [posL_len, hni]; rfl
        have hpr : (i : Int) ∈ presL l := by
          unfold presL
          rw [List.mem_filter]
          exact ⟨List.mem_of_getElem? (xs16_get (by omega)), by simpa using hin⟩
        have hA : A[i]? = some (.sl (6 + (presL l).idxOf (i : Int)) 0 (posL i l 0).length 0) := by
          rw [← hSA, List.getElem?_map, xs16_get (by omega)]
          simp [syV, hpr]
        have hAl : A.length = 16 := by rw [← hSA]; simp [xs16]
        have hRr : R[(presL l).idxOf (i : Int)]? = some (pRow (posL i l 0) 0 t) := by
          rw [← hRA, List.getElem?_map, List.getElem?_eq_getElem (List.idxOf_lt_length_of_mem hpr)]
          simp
        generalize (presL l).idxOf (i : Int) = j at *
        have hrow : ∀ a : Int, (nH c b a m n f l 0 t t t)[6 + j]? = some (pRow (posL i l 0) 0 t) := by
          intro a
          rw [hH a, Nat.add_comm]
          simpa using hRr
        have hkI : ((c3 : Int) - fi).toNat < (posL i l 0).length := by omega
        obtain ⟨z, hz⟩ : ∃ z, (posL i l 0)[((c3 : Int) - fi).toNat]? = some z := ⟨_, List.getElem?_eq_getElem hkI⟩
        have hzd : (posL i l 0).getD ((c3 : Int) - fi).toNat 0 = z := by rw [List.getD_eq_getElem?_getD, hz]; rfl
        rw [hzd]
        have hkl : (c3 : Int) - fi < ((posL i l 0).length : Int) := by omega
        unfold nxO
        generalize posL i l 0 = ps at *
        generalize 6 + j = o at *
        simp only [hH] at hrow
        unfold pRow at hrow
        generalize hkk : (c3 : Int) - fi = kk at hk0 hkn hz hkl
        have hK2 : IntKind.i64.wrap ((c3 : Int) - fi) = kk := by rw [hK, hkk]
        apply Run.seq_out
        · apply Run.block
          · apply Run.seq
            · (refine ⟨0, ?_⟩; conv => lhs; simp -implicitDefEqProofs [-getElem?_pos, List.getElem?_cons_zero, List.getElem?_cons_succ, exec, runOps, dstOk, wantedV, AM.step, evalT, evalO, evalArgs, evalParts, getF, putF, afterRegion, assignV, boxOf, newBox, hasIdsP, keepF, ofVal, ofCell, plen, pesz, callV, builtinV, lenV, binV, unV, arith, shiftI, loadV, storeV, putV, indexAddrV, live, upd, pget, pset, psetA, pagg, retag, retagP, byteAV, freezeP, freezeV, joinTags, joinTag, tags, ids, scalar, cellsLen, eqV, convV, faV, fvV, shiftBy, shiftRo, hfr, hH, hle])
            apply Run.seq
            · (refine ⟨0, ?_⟩; conv => lhs; simp -implicitDefEqProofs [-getElem?_pos, List.getElem?_cons_zero, List.getElem?_cons_succ, exec, runOps, dstOk, wantedV, AM.step, evalT, evalO, evalArgs, evalParts, getF, putF, afterRegion, assignV, boxOf, newBox, hasIdsP, keepF, ofVal, ofCell, plen, pesz, callV, builtinV, lenV, binV, unV, arith, shiftI, loadV, storeV, putV, indexAddrV, live, upd, pget, pset, psetA, pagg, retag, retagP, byteAV, freezeP, freezeV, joinTags, joinTag, tags, ids, scalar, cellsLen, eqV, convV, faV, fvV, shiftBy, shiftRo, hq8, hq8', w1, hs8])
            apply Run.seq
            · (refine ⟨0, ?_⟩; conv => lhs; simp -implicitDefEqProofs [-getElem?_pos, List.getElem?_cons_zero, List.getElem?_cons_succ, exec, runOps, dstOk, wantedV, AM.step, evalT, evalO, evalArgs, evalParts, getF, putF, afterRegion, assignV, boxOf, newBox, hasIdsP, keepF, ofVal, ofCell, plen, pesz, callV, builtinV, lenV, binV, unV, arith, shiftI, loadV, storeV, putV, indexAddrV, live, upd, pget, pset, psetA, pagg, retag, retagP, byteAV, freezeP, freezeV, joinTags, joinTag, tags, ids, scalar, cellsLen, eqV, convV, faV, fvV, shiftBy, shiftRo, hq8, hq8', w1, hs8, hget, e2, e4, w2, hr0, hm8, hv, hb8, bits8_one, hU1, hU2, hX, hmn, hC2, hC2b, hXb, hC3, hq0])
            apply Run.seq
            · (refine ⟨0, ?_⟩; conv => lhs; simp -implicitDefEqProofs [-getElem?_pos, List.getElem?_cons_zero, List.getElem?_cons_succ, exec, runOps, dstOk, wantedV, AM.step, evalT, evalO, evalArgs, evalParts, getF, putF, afterRegion, assignV, boxOf, newBox, hasIdsP, keepF, ofVal, ofCell, plen, pesz, callV, builtinV, lenV, binV, unV, arith, shiftI, loadV, storeV, putV, indexAddrV, live, upd, pget, pset, psetA, pagg, retag, retagP, byteAV, freezeP, freezeV, joinTags, joinTag, tags, ids, scalar, cellsLen, eqV, convV, faV, fvV, shiftBy, shiftRo, w9])
            apply Run.seq
            · (refine ⟨0, ?_⟩; conv => lhs; simp -implicitDefEqProofs [-getElem?_pos, List.getElem?_cons_zero, List.getElem?_cons_succ, exec, runOps, dstOk, wantedV, AM.step, evalT, evalO, evalArgs, evalParts, getF, putF, afterRegion, assignV, boxOf, newBox, hasIdsP, keepF, ofVal, ofCell, plen, pesz, callV, builtinV, lenV, binV, unV, arith, shiftI, loadV, storeV, putV, indexAddrV, live, upd, pget, pset, psetA, pagg, retag, retagP, byteAV, freezeP, freezeV, joinTags, joinTag, tags, ids, scalar, cellsLen, eqV, convV, faV, fvV, shiftBy, shiftRo, hi17, hfg, hK2, hf])
            (refine ⟨0, ?_⟩; simp -implicitDefEqProofs [-getElem?_pos, List.getElem?_cons_zero, List.getElem?_cons_succ, exec, runOps, dstOk, wantedV, AM.step, evalT, evalO, evalArgs, evalParts, getF, putF, afterRegion, assignV, boxOf, newBox, hasIdsP, keepF, ofVal, ofCell, plen, pesz, callV, builtinV, lenV, binV, unV, arith, shiftI, loadV, storeV, putV, indexAddrV, live, upd, pget, pset, psetA, pagg, retag, retagP, byteAV, freezeP, freezeV, joinTags, joinTag, tags, ids, scalar, cellsLen, eqV, convV, faV, fvV, shiftBy, shiftRo, hH, hk0, hkn, hi16, hng, hn, hA, hAl, hrow, hz, hkl])
          · simp
        · simp
      · left
        refine ⟨(k, i + 1, (c3 : Int)), ⟨by simp; omega, by simp, by simp, by simpa using hc3p, .inr (by simp; omega)⟩, ?_, by rw [hdec, if_neg hhit], by simp⟩
        simp only [hai3]
        apply Run.seq (fr' := nxFr (c3 : Int) i ++ [(11, .int .i64 ((c3 : Int) - fi)), (50, .bool false)]) (H' := nH c b ((a + i : Nat) : Int) m n f l 0 t t t)
        · apply Run.block
          · apply Run.seq
            · (refine ⟨0, ?_⟩; conv => lhs; simp -implicitDefEqProofs [-getElem?_pos, List.getElem?_cons_zero, List.getElem?_cons_succ, exec, runOps, dstOk, wantedV, AM.step, evalT, evalO, evalArgs, evalParts, getF, putF, afterRegion, assignV, boxOf, newBox, hasIdsP, keepF, ofVal, ofCell, plen, pesz, callV, builtinV, lenV, binV, unV, arith, shiftI, loadV, storeV, putV, indexAddrV, live, upd, pget, pset, psetA, pagg, retag, retagP, byteAV, freezeP, freezeV, joinTags, joinTag, tags, ids, scalar, cellsLen, eqV, convV, faV, fvV, shiftBy, shiftRo, hfr, hH, hle])
            apply Run.seq
            · (refine ⟨0, ?_⟩; conv => lhs; simp -implicitDefEqProofs [-getElem?_pos, List.getElem?_cons_zero, List.getElem?_cons_succ, exec, runOps, dstOk, wantedV, AM.step, evalT, evalO, evalArgs, evalParts, getF, putF, afterRegion, assignV, boxOf, newBox, hasIdsP, keepF, ofVal, ofCell, plen, pesz, callV, builtinV, lenV, binV, unV, arith, shiftI, loadV, storeV, putV, indexAddrV, live, upd, pget, pset, psetA, pagg, retag, retagP, byteAV, freezeP, freezeV, joinTags, joinTag, tags, ids, scalar, cellsLen, eqV, convV, faV, fvV, shiftBy, shiftRo, hq8, hq8', w1, hs8])
            apply Run.seq
            · (refine ⟨0, ?_⟩; conv => lhs; simp -implicitDefEqProofs [-getElem?_pos, List.getElem?_cons_zero, List.getElem?_cons_succ, exec, runOps, dstOk, wantedV, AM.step, evalT, evalO, evalArgs, evalParts, getF, putF, afterRegion, assignV, boxOf, newBox, hasIdsP, keepF, ofVal, ofCell, plen, pesz, callV, builtinV, lenV, binV, unV, arith, shiftI, loadV, storeV, putV, indexAddrV, live, upd, pget, pset, psetA, pagg, retag, retagP, byteAV, freezeP, freezeV, joinTags, joinTag, tags, ids, scalar, cellsLen, eqV, convV, faV, fvV, shiftBy, shiftRo, hq8, hq8', w1, hs8, hget, e2, e4, w2, hr0, hm8, hv, hb8, bits8_one, hU1, hU2, hX, hmn, hC2, hC2b, hXb, hC3, hq0])
            apply Run.seq
            · (refine ⟨0, ?_⟩; conv => lhs; simp -implicitDefEqProofs [-getElem?_pos, List.getElem?_cons_zero, List.getElem?_cons_succ, exec, runOps, dstOk, wantedV, AM.step, evalT, evalO, evalArgs, evalParts, getF, putF, afterRegion, assignV, boxOf, newBox, hasIdsP, keepF, ofVal, ofCell, plen, pesz, callV, builtinV, lenV, binV, unV, arith, shiftI, loadV, storeV, putV, indexAddrV, live, upd, pget, pset, psetA, pagg, retag, retagP, byteAV, freezeP, freezeV, joinTags, joinTag, tags, ids, scalar, cellsLen, eqV, convV, faV, fvV, shiftBy, shiftRo, w9])
            apply Run.seq
            · (refine ⟨0, ?_⟩; conv => lhs; simp -implicitDefEqProofs [-getElem?_pos, List.getElem?_cons_zero, List.getElem?_cons_succ, exec, runOps, dstOk, wantedV, AM.step, evalT, evalO, evalArgs, evalParts, getF, putF, afterRegion, assignV, boxOf, newBox, hasIdsP, keepF, ofVal, ofCell, plen, pesz, callV, builtinV, lenV, binV, unV, arith, shiftI, loadV, storeV, putV, indexAddrV, live, upd, pget, pset, psetA, pagg, retag, retagP, byteAV, freezeP, freezeV, joinTags, joinTag, tags, ids, scalar, cellsLen, eqV, convV, faV, fvV, shiftBy, shiftRo, hi17, hfg, hK, hf])
            by_cases hk0 : 0 ≤ (c3 : Int) - fi
            · have hkn : ¬ ((c3 : Int) - fi < ni) := fun z => hhit ⟨hk0, z⟩
              generalize (c3 : Int) - fi = kk at *
              (refine ⟨0, ?_⟩; simp -implicitDefEqProofs [-getElem?_pos, List.getElem?_cons_zero, List.getElem?_cons_succ, exec, runOps, dstOk, wantedV, AM.step, evalT, evalO, evalArgs, evalParts, getF, putF, afterRegion, assignV, boxOf, newBox, hasIdsP, keepF, ofVal, ofCell, plen, pesz, callV, builtinV, lenV, binV, unV, arith, shiftI, loadV, storeV, putV, indexAddrV, live, upd, pget, pset, psetA, pagg, retag, retagP, byteAV, freezeP, freezeV, joinTags, joinTag, tags, ids, scalar, cellsLen, eqV, convV, faV, fvV, shiftBy, shiftRo, hfr, hH, hk0, hkn, hi16, hng, hn])
            · generalize (c3 : Int) - fi = kk at *
              (refine ⟨0, ?_⟩; simp -implicitDefEqProofs [-getElem?_pos, List.getElem?_cons_zero, List.getElem?_cons_succ, exec, runOps, dstOk, wantedV, AM.step, evalT, evalO, evalArgs, evalParts, getF, putF, afterRegion, assignV, boxOf, newBox, hasIdsP, keepF, ofVal, ofCell, plen, pesz, callV, builtinV, lenV, binV, unV, arith, shiftI, loadV, storeV, putV, indexAddrV, live, upd, pget, pset, psetA, pagg, retag, retagP, byteAV, freezeP, freezeV, joinTags, joinTag, tags, ids, scalar, cellsLen, eqV, convV, faV, fvV, shiftBy, shiftRo, hfr, hH, hk0])
          · simp
        · (refine ⟨0, ?_⟩; simp -implicitDefEqProofs [-getElem?_pos, List.getElem?_cons_zero, List.getElem?_cons_succ, exec, runOps, dstOk, wantedV, AM.step, evalT, evalO, evalArgs, evalParts, getF, putF, afterRegion, assignV, boxOf, newBox, hasIdsP, keepF, ofVal, ofCell, plen, pesz, callV, builtinV, lenV, binV, unV, arith, shiftI, loadV, storeV, putV, indexAddrV, live, upd, pget, pset, psetA, pagg, retag, retagP, byteAV, freezeP, freezeV, joinTags, joinTag, tags, ids, scalar, cellsLen, eqV, convV, faV, fvV, shiftBy, shiftRo, hfr, hH, hi1])

end Go.Proofs.Ytikleidhmekgnaa
