/- C8 to CG: texts of this claim, one behind the other; what each shows stands at its head. -/
import Derived.Test.YtfkbemllgeopfaaDoorAm3
import Derived.Test.YtfkbemllgeopfaaDoorMg0
/- Walks: Of; plain: what names tell. -/
namespace Go.Proofs.YtfkbemllgeopfaaDoor
open Go.AM
set_option linter.unusedSimpArgs false
set_option linter.unusedVariables false

/-- the names of the first i bits -/
def nmsA (i : Nat) : List (List UInt8) := (List.range i).map nm

theorem nmsA_succ (i : Nat) : nmsA (i + 1) = nmsA i ++ [nm i] := by simp [nmsA, List.range_succ]
theorem nmsA_len (i : Nat) : (nmsA i).length = i := by simp [nmsA]
theorem nmsA_25 : nmsA 25 = nmL := by kernel_rfl

/-- what is told of names from the k-th on, the word so far c -/
def ofR : List (List UInt8) → Nat → BitVec 32 → BitVec 32 × Int × Int
  | [], _, c => (c, 0, 0)
  | s :: r, k, c => if ixR (nmsA 32) s 0 < 0 then (0, 2, (k : Nat)) else ofR r (k + 1) (c ||| (1#32 <<< (ixR (nmsA 32) s 0).toNat))

def fltV (e a : Int) : AV := .agg (.pc [.int .i64 e, .int .i64 a])
def fltO (e a : Int) : Option AM.Obj := some ⟨.pc [.int .i64 e, .int .i64 a], 0, some 2, 1, false, true, 0⟩

/-- the list of all names, as appending leaves it -/
def alO (i : Nat) : Option AM.Obj := some ⟨tx (nmsA i), i - 25, if i = 25 then some 25 else .none, 1, true, false, 0⟩

theorem app_al {i : Nat} (h1 : 25 ≤ i) (h2 : i < 32) (H : AM.Heap) (o : Nat) (ho : H[o]? = some (alO i)) : appendV X H 32 (.sl o 0 i (i - 25)) (.ro 1 (.pc [.str (nm i)]) 0) = some (.sl o 0 (i + 1) (i + 1 - 25), upd H o (alO (i + 1))) := by
  have hroom : roomOk X 9 (i + 1) = true := by
    simp [roomOk]
    omega
  have ho' : H[o]? = some (some ⟨.pc ((nmsA i).map .str), i - 25, if i = 25 then some 25 else .none, 1, true, false, 0⟩) := ho
  have hl := nmsA_len i
  have hn : ¬ i = 0 := by omega
  have h25 : ¬ i + 1 = 25 := by omega
  have hg : i - 25 + 1 = i + 1 - 25 := by omega
  have ht : List.take i ((nmsA i).map AV.str) = (nmsA i).map AV.str := by rw [List.take_of_length_le (by simp [hl])]
  simp only [appendV, und32, size9, zok9]
  simp [srcV, payB, plen, live, ho', alO, tx, psub, papp, pesz, ptag, joinTag, hroom, hl, hn, h25, hg, ht, nmsA_succ]
  by_cases h : i = 25
  · simp [h]
  · simp [h]

theorem bd29 (x y : Int) : buildV X 29 [(0, .int .i64 x), (1, .int .i64 y)] = some (.agg (.pc [.int .i64 x, .int .i64 y])) := by kernel_rfl
theorem bd29n : buildV X 29 [] = some (.agg (.pc [.int .i64 0, .int .i64 0])) := by kernel_rfl

section
variable (cc : Nat) (l : List (List UInt8))

def ofFr0 (i : Nat) : AM.Frame := [(0, .ro cc (tx l) 1), (3, .ptr 0 0 0 0), (4, uB 0#32), (5, .sl 1 0 i (i - 25)), (6, .int .i64 (i : Nat))]
def ofFr (k : Nat) (c : BitVec 32) : AM.Frame := [(3, .ptr 0 0 0 0), (4, uB c), (5, .sl 1 0 32 7), (21, .ro cc (tx l) 1), (22, .int .i64 (l.length : Nat)), (23, .int .i64 (k : Nat))]

theorem wrap_or (x y : BitVec 32) : IntKind.u32.wrap ((AM.bits .u32 (x.toNat : Int) ||| AM.bits .u32 (y.toNat : Int)).toNat : Nat) = ((x ||| y).toNat : Nat) := by
  rw [bits_uB, bits_uB]
  exact wrap_uB (x ||| y)

theorem shl_one {k : Nat} (hk : k < 32) : IntKind.u32.wrap (1 * 2 ^ (min k 32)) = ((1#32 <<< k).toNat : Nat) := by
  have : List.all (List.range 32) (fun k => IntKind.u32.wrap (1 * 2 ^ (min k 32)) == ((1#32 <<< k).toNat : Nat)) = true := by kernel_rfl
  have := List.all_eq_true.1 this k (List.mem_range.2 hk)
  simpa using this

theorem ixR_lt : ∀ (l : List (List UInt8)) (s : List UInt8) (i : Nat), ixR l s i < 0 ∨ (∃ j : Nat, ixR l s i = (j : Int) ∧ j < i + l.length)
  | [], s, i => .inl (by simp [ixR])
  | x :: r, s, i => by
    unfold ixR
    split
    · exact .inr ⟨i, rfl, by simp⟩
    · rcases ixR_lt r s (i + 1) with h | ⟨j, h, hj⟩
      · exact .inl h
      · exact .inr ⟨j, h, by simp; omega⟩

set_option maxRecDepth 100000 in
set_option maxHeartbeats 4000000 in
theorem of_code (hl : l.length < 9223372036854775808) : ∃ code, Tryd.f9.body = some code ∧
    Tells (Rets fun fr H => fr = [(2, uB (ofR l 0 0#32).1), (3, .ptr 0 0 0 0)] ∧ H = [fltO (ofR l 0 0#32).2.1 (ofR l 0 0#32).2.2, alO 32]) X (evT X) 9 0 code [(0, .ro cc (tx l) 1)] [] := by
  refine ⟨_, rfl, ?_⟩
  have hN := evT_eq (names_ev [fltO 0 0])
  have hal : alO 25 = some nmOb := by unfold alO; rw [nmsA_25]; rfl
  apply Tells.seq
  · (refine ⟨0, ?_⟩; conv => lhs; simp (maxSteps := 2000000) -implicitDefEqProofs [-getElem?_pos, List.getElem?_cons_zero, List.getElem?_cons_succ, go_sem, eqV, plen, loadV, storeV])
  apply Tells.seq
  · (refine ⟨0, ?_⟩; conv => lhs; simp (maxSteps := 2000000) -implicitDefEqProofs [-getElem?_pos, List.getElem?_cons_zero, List.getElem?_cons_succ, go_sem, eqV, plen, loadV, storeV])
  apply Tells.seq (fr' := [(0, .ro cc (tx l) 1), (3, .ptr 0 0 0 0), (4, uB 0#32), (5, .sl 1 0 25 0)]) (H' := [fltO 0 0, alO 25])
  · rw [hal]
    simp only [fltO] at hN
    (refine ⟨0, ?_⟩; simp (maxSteps := 2000000) -implicitDefEqProofs [-getElem?_pos, List.getElem?_cons_zero, List.getElem?_cons_succ, go_sem, eqV, plen, loadV, storeV, uB, hN, fltO, assignV])
  have hlc : ((nmsA 32).length) = 32 := nmsA_len 32
  apply Tells.seq (fr' := ofFr0 cc l 32 ++ [(12, .bool false)]) (H' := [fltO 0 0, alO 32])
  · apply Run.seq (fr' := ofFr0 cc l 25) (H' := [fltO 0 0, alO 25])
    · (refine ⟨0, ?_⟩; simp (maxSteps := 2000000) -implicitDefEqProofs [-getElem?_pos, List.getElem?_cons_zero, List.getElem?_cons_succ, go_sem, eqV, plen, loadV, storeV, ofFr0])
    apply Run.block_exit
    refine Run.loop_rule (σ := Nat) (fun i => 25 ≤ i ∧ i ≤ 32) (fun i => ofFr0 cc l i) (fun i => [fltO 0 0, alO i]) (fun _ => ⟨.exit 0, ofFr0 cc l 32 ++ [(12, .bool false)], [fltO 0 0, alO 32]⟩) (fun i => 32 - i) ?_ 25 ⟨by omega, by omega⟩
    rintro i ⟨h25, hi⟩
    by_cases h32 : i = 32
    · right
      refine ⟨?_, by simp⟩
      subst h32
      (refine ⟨0, ?_⟩; simp (maxSteps := 2000000) -implicitDefEqProofs [-getElem?_pos, List.getElem?_cons_zero, List.getElem?_cons_succ, go_sem, eqV, plen, loadV, storeV, ofFr0, uB])
    · left
      have hlt : i < 32 := by omega
      have hltI : (i : Int) < 32 := by omega
      have w1 : IntKind.i64.wrap ((i : Int) + 1) = ((i + 1 : Nat) : Int) := by rw [wrap_i64 (by omega) (by omega)]; omega
      refine ⟨i + 1, ⟨by omega, by omega⟩, ?_, rfl, by omega⟩
      have hA := app_al h25 hlt [fltO 0 0, alO i] 1 rfl
      have hI := evT_eq (itoa_ev hlt [fltO 0 0, alO i])
      have hdl : 4 + (dig i).length ≤ 9223372036854775807 := by unfold dig; split <;> simp
      rw [nm_bit h25] at hA
      (refine ⟨0, ?_⟩; simp (maxSteps := 2000000) -implicitDefEqProofs [-getElem?_pos, List.getElem?_cons_zero, List.getElem?_cons_succ, go_sem, eqV, plen, loadV, storeV, uB, ofFr0, hltI, hI, strOp, hdl, bs_tx, hA, w1, upd])
  apply Tells.assoc
  apply Tells.seq (fr' := ofFr cc l 0 0#32) (H' := [fltO 0 0, alO 32])
  · (refine ⟨0, ?_⟩; simp (maxSteps := 2000000) -implicitDefEqProofs [-getElem?_pos, List.getElem?_cons_zero, List.getElem?_cons_succ, go_sem, eqV, plen, loadV, storeV, ofFr0, ofFr, tx, uB])
  have h32t : List.take 32 ((nmsA 32).map AV.str) = (nmsA 32).map AV.str := by rw [List.take_of_length_le (by simp [hlc])]
  apply Tells.blockThen (P := fun fr H => fr = ofFr cc l l.length (ofR l 0 0#32).1 ++ [(24, .bool false)] ∧ H = [fltO 0 0, alO 32] ∧ (ofR l 0 0#32).2 = (0, 0))
  · refine Tells.loop (σ := Nat × BitVec 32) (fun s => s.1 ≤ l.length ∧ ofR (l.drop s.1) s.1 s.2 = ofR l 0 0#32) (fun s => ofFr cc l s.1 s.2) (fun _ => [fltO 0 0, alO 32]) (fun s => l.length - s.1) ?_ (0, 0#32) ⟨by simp, rfl⟩
    rintro ⟨k, c⟩ ⟨hk, hf⟩
    simp only at hk hf ⊢
    by_cases he : k = l.length
    · right
      subst he
      rw [List.drop_length] at hf
      refine ⟨⟨.exit 2, ofFr cc l l.length (ofR l 0 0#32).1 ++ [(24, .bool false)], [fltO 0 0, alO 32]⟩, .inl ⟨rfl, rfl, rfl, ?_⟩, by simp, ?_⟩
      · rw [← hf]; rfl
      · rw [show (ofR l 0 0#32).1 = c by rw [← hf]; rfl]
        (refine ⟨0, ?_⟩; simp (maxSteps := 2000000) -implicitDefEqProofs [-getElem?_pos, List.getElem?_cons_zero, List.getElem?_cons_succ, go_sem, eqV, plen, loadV, storeV, ofFr, uB])
    · have hlt : k < l.length := by omega
      have hltI : (k : Int) < (l.length : Int) := by omega
      obtain ⟨s, hs⟩ : ∃ s, l[k]? = some s := ⟨l[k], List.getElem?_eq_getElem hlt⟩
      have hsa := tx_at hs
      have hd : l.drop k = s :: l.drop (k + 1) := by
        rw [List.drop_eq_getElem_cons hlt]
        rw [List.getElem?_eq_getElem hlt] at hs
        rw [Option.some.inj hs]
      rw [hd, show ofR (s :: l.drop (k + 1)) k c = if ixR (nmsA 32) s 0 < 0 then (0, 2, (k : Int)) else ofR (l.drop (k + 1)) (k + 1) (c ||| (1#32 <<< (ixR (nmsA 32) s 0).toNat)) from rfl] at hf
      have hX := evT_eq (ixT_ev (H := [fltO 0 0, alO 32]) (a := .sl 1 0 32 7) (l := nmsA 32) (s := s) (by simp [payOf, live, alO, tx, psub, hlc, h32t]) (by omega))
      have w1 : IntKind.i64.wrap ((k : Int) + 1) = ((k + 1 : Nat) : Int) := by rw [wrap_i64 (by omega) (by omega)]; omega
      rcases ixR_lt (nmsA 32) s 0 with hn | ⟨j, hj, hj2⟩
      · right
        rw [if_pos hn] at hf
        refine ⟨⟨.ret, [(2, uB 0#32), (3, .ptr 0 0 0 0)], [fltO 2 k, alO 32]⟩, .inr ⟨rfl, rfl, by simp only [← hf]; rfl, by simp only [← hf]⟩, by simp, ?_⟩
        generalize ixR (nmsA 32) s 0 = z at *
        generalize alO 32 = oo at *
        simp only [fltO] at hX
        (refine ⟨0, ?_⟩; simp (maxSteps := 2000000) -implicitDefEqProofs [-getElem?_pos, List.getElem?_cons_zero, List.getElem?_cons_succ, go_sem, eqV, plen, loadV, storeV, ofFr, uB, tx, hltI, hsa, hX, hn, fltO, bd29, flatCells, splice, scalars, scalar])
      · left
        rw [hj] at hf hX
        rw [if_neg (by omega), Int.toNat_natCast] at hf
        have hj32 : j < 32 := by omega
        refine ⟨(k + 1, c ||| (1#32 <<< j)), ⟨by simp only; omega, hf⟩, ?_, by simp only; omega⟩
        have hsh := shl_one hj32
        have hj0 : ¬ (j : Int) < 0 := by omega
        have hmb : IntKind.u32.bits = 32 := rfl
        generalize alO 32 = oo at *
        simp only [fltO] at hX
        (refine ⟨0, ?_⟩; simp (maxSteps := 2000000) -implicitDefEqProofs [-getElem?_pos, List.getElem?_cons_zero, List.getElem?_cons_succ, go_sem, eqV, plen, loadV, storeV, ofFr, uB, tx, hltI, hsa, hX, fltO, hmb, hsh, wrap_or, w1, hj0, -BitVec.toNat_or, -BitVec.toNat_shiftLeft])
        rw [Int.one_mul] at hsh
        rw [hsh]
        exact wrap_or _ _
  · rintro fr H ⟨rfl, rfl, h2⟩
    refine Tells.of (o := ⟨.ret, [(2, uB (ofR l 0 0#32).1), (3, .ptr 0 0 0 0)], [fltO 0 0, alO 32]⟩) ?_ ⟨rfl, rfl, by rw [h2]⟩
    refine ⟨0, ?_⟩
    simp (maxSteps := 2000000) -implicitDefEqProofs [-getElem?_pos, List.getElem?_cons_zero, List.getElem?_cons_succ, go_sem, eqV, plen, loadV, storeV, ofFr, uB, fltO, bd29n, flatCells, splice, scalars, scalar]

end

theorem of_ev {H : AM.Heap} {a : AV} {l : List (List UInt8)} (h : payOf H a = some (tx l)) (hl : l.length < 9223372036854775808) :
    Ev1 X 9 [a] H (.tup [uB (ofR l 0 0#32).1, fltV (ofR l 0 0#32).2.1 (ofR l 0 0#32).2.2], H) := by
  obtain ⟨cc, x, hx⟩ := args_pay (C := X) (f := 9) (i := 0) rfl h (args_nil 1)
  obtain ⟨code, hb, ⟨ex, fr, H1⟩, ⟨he, hfr, hH⟩, hr⟩ := of_code cc l hl
  simp only at he hfr hH
  subst he; subst hfr; subst hH
  generalize ofR l 0 0#32 = r at *
  generalize alO 32 = oo at *
  refine Ev1.plain (l := [uB r.1, fltV r.2.1 r.2.2]) (evT_below X) Tryd.func9 hb hx (by simp [idsL, ids, ids_tx]) (by simp [gtag]) hr (.inr rfl) ?_ rfl rfl
  rfl

/-- the bits below i -/
def lowB (c : BitVec 32) : Nat → BitVec 32
  | 0 => 0#32
  | i + 1 => if c.getLsbD i then lowB c i ||| (1#32 <<< i) else lowB c i

theorem ixR_nm {k : Nat} (hk : k < 32) : ixR (nmsA 32) (nm k) 0 = (k : Int) := by
  have : List.all (List.range 32) (fun k => ixR (nmsA 32) (nm k) 0 == (k : Int)) = true := by kernel_rfl
  have := List.all_eq_true.1 this k (List.mem_range.2 hk)
  simpa using this

end Go.Proofs.YtfkbemllgeopfaaDoor

/- Plain: a name looked for from the other end is the same bit: names are apart. -/
namespace Go.Proofs.YtfkbemllgeopfaaDoor
open Go.AM
set_option linter.unusedSimpArgs false
set_option linter.unusedVariables false

/-- the last of the first k bits that has this name -/
def fdR (s : List UInt8) : Nat → Int
  | 0 => -1
  | k + 1 => if nm k = s then (k : Nat) else fdR s k

theorem fdR_no {s : List UInt8} : ∀ k, (∀ j, j < k → nm j ≠ s) → fdR s k = -1
  | 0, _ => rfl
  | k + 1, h => by
    rw [fdR, if_neg (h k (by omega))]
    exact fdR_no k fun j hj => h j (by omega)

theorem fdR_nm {j : Nat} : ∀ k, j < k → k ≤ 32 → fdR (nm j) k = (j : Nat)
  | 0, h, _ => by omega
  | k + 1, h, hk => by
    rw [fdR]
    by_cases he : nm k = nm j
    · rw [if_pos he, nm_inj k j (by omega) (by omega) he]
    · rw [if_neg he]
      have : j ≠ k := fun e => he (by rw [e])
      exact fdR_nm k (by omega) (by omega)

theorem ixR_no : ∀ (l : List (List UInt8)) (s : List UInt8) (i : Nat), (∀ x ∈ l, s ≠ x) → ixR l s i = -1
  | [], _, _, _ => rfl
  | x :: r, s, i, h => by
    rw [ixR, if_neg (h x (List.mem_cons_self ..))]
    exact ixR_no r s (i + 1) fun y hy => h y (List.mem_cons_of_mem _ hy)

theorem fd_ix (s : List UInt8) : fdR s 32 = ixR (nmsA 32) s 0 := by
  by_cases h : ∃ j, j < 32 ∧ nm j = s
  · obtain ⟨j, hj, rfl⟩ := h
    rw [fdR_nm 32 hj (by omega), ixR_nm hj]
  · rw [fdR_no 32 fun j hj e => h ⟨j, hj, e⟩, ixR_no]
    intro x hx e
    unfold nmsA at hx
    obtain ⟨j, hj, rfl⟩ := List.mem_map.1 hx
    exact h ⟨j, List.mem_range.1 hj, e.symm⟩

end Go.Proofs.YtfkbemllgeopfaaDoor

/- Walks: what both must have, what is offered, what both can, the document's. -/
namespace Go.Proofs.YtfkbemllgeopfaaDoor
open Go.AM
set_option linter.unusedSimpArgs false
set_option linter.unusedVariables false

theorem offered_ev (H : AM.Heap) : Ev1 X 13 [] H (.int .u32 29353903, H) :=
  Ev1.triedP (T := fun _ _ _ => none) Below.none (n := 20) (f := 13) (args := []) (v := .int .u32 29353903) (by kernel_rfl) rfl H
theorem roffered_ev (H : AM.Heap) : Ev1 X 17 [] H (.int .u32 29353903, H) :=
  Ev1.triedP (T := fun _ _ _ => none) Below.none (n := 20) (f := 17) (args := []) (v := .int .u32 29353903) (by kernel_rfl) rfl H
theorem needed_ev (H : AM.Heap) : Ev1 X 15 [] H (.int .u32 565760, H) :=
  Ev1.triedP (T := fun _ _ _ => none) Below.none (n := 20) (f := 15) (args := []) (v := .int .u32 565760) (by kernel_rfl) rfl H
theorem rneeded_ev (H : AM.Heap) : Ev1 X 18 [] H (.int .u32 565760, H) :=
  Ev1.triedP (T := fun _ _ _ => none) Below.none (n := 20) (f := 18) (args := []) (v := .int .u32 565760) (by kernel_rfl) rfl H

/-- is what is needed there? -/
def ckB (c : BitVec 32) : Int := if c &&& 565760#32 = 565760#32 then 0 else 5

set_option maxRecDepth 100000 in
set_option maxHeartbeats 4000000 in
theorem check_code (c : BitVec 32) : ∃ code, Tryd.f14.body = some code ∧ Run X (evT X) 14 0 code [(0, uB c)] [] ⟨.ret, [(2, .int .i64 (ckB c))], []⟩ := by
  refine ⟨_, rfl, 0, ?_⟩
  have hN := evT_eq (needed_ev [])
  have wa := wrap_and c 565760#32
  have he := eq_uB (c &&& 565760#32) 565760#32
  rw [show ((565760#32 : BitVec 32).toNat : Int) = 565760 from rfl] at wa he
  simp only [go_sem] at wa
  unfold ckB
  by_cases hz : c &&& 565760#32 = 565760#32
  · rw [if_pos hz]
    have h1 := he.2 hz
    simp (maxSteps := 2000000) -implicitDefEqProofs [-getElem?_pos, List.getElem?_cons_zero, List.getElem?_cons_succ, go_sem, eqV, plen, loadV, storeV, uB, hN, wa, h1, -BitVec.toNat_and]
  · rw [if_neg hz]
    have h1 : ¬ ((c &&& 565760#32).toNat : Int) = 565760 := fun h => hz (he.1 h)
    have h2 : (((c &&& 565760#32).toNat : Int) != 565760) = true := by simpa using h1
    simp (maxSteps := 2000000) -implicitDefEqProofs [-getElem?_pos, List.getElem?_cons_zero, List.getElem?_cons_succ, go_sem, eqV, plen, loadV, storeV, uB, hN, wa, h1, h2, -BitVec.toNat_and]

set_option maxRecDepth 100000 in
set_option maxHeartbeats 4000000 in
theorem rcheck_code (c : BitVec 32) : ∃ code, Tryd.f20.body = some code ∧ Run X (evT X) 20 0 code [(0, uB c)] [] ⟨.ret, [(2, .int .i64 (ckB c))], []⟩ := by
  refine ⟨_, rfl, 0, ?_⟩
  have hN := evT_eq (rneeded_ev [])
  have wa := wrap_and c 565760#32
  have he := eq_uB (c &&& 565760#32) 565760#32
  rw [show ((565760#32 : BitVec 32).toNat : Int) = 565760 from rfl] at wa he
  simp only [go_sem] at wa
  unfold ckB
  by_cases hz : c &&& 565760#32 = 565760#32
  · rw [if_pos hz]
    have h1 := he.2 hz
    simp (maxSteps := 2000000) -implicitDefEqProofs [-getElem?_pos, List.getElem?_cons_zero, List.getElem?_cons_succ, go_sem, eqV, plen, loadV, storeV, uB, hN, wa, h1, -BitVec.toNat_and]
  · rw [if_neg hz]
    have h1 : ¬ ((c &&& 565760#32).toNat : Int) = 565760 := fun h => hz (he.1 h)
    have h2 : (((c &&& 565760#32).toNat : Int) != 565760) = true := by simpa using h1
    simp (maxSteps := 2000000) -implicitDefEqProofs [-getElem?_pos, List.getElem?_cons_zero, List.getElem?_cons_succ, go_sem, eqV, plen, loadV, storeV, uB, hN, wa, h1, h2, -BitVec.toNat_and]

theorem check_ev (c : BitVec 32) (H : AM.Heap) : Ev1 X 14 [uB c] H (.int .i64 (ckB c), H) := by
  obtain ⟨code, hb, hr⟩ := check_code c
  exact Ev1.plain (args := [uB c]) (l := [.int .i64 (ckB c)]) (evT_below X) Tryd.func14 hb rfl rfl (by simp [gtag]) hr (.inr rfl) rfl rfl rfl
theorem rcheck_ev (c : BitVec 32) (H : AM.Heap) : Ev1 X 20 [uB c] H (.int .i64 (ckB c), H) := by
  obtain ⟨code, hb, hr⟩ := rcheck_code c
  exact Ev1.plain (args := [uB c]) (l := [.int .i64 (ckB c)]) (evT_below X) Tryd.func20 hb rfl rfl (by simp [gtag]) hr (.inr rfl) rfl rfl rfl

set_option maxRecDepth 100000 in
set_option maxHeartbeats 4000000 in
theorem without_code (c o w : BitVec 32) : ∃ code, Tryd.f28.body = some code ∧ Run X (evT X) 28 0 code [(0, uB c), (1, uB o), (2, uB w)] [] ⟨.ret, [(6, uB (wo c o w))], []⟩ := by
  refine ⟨_, rfl, 0, ?_⟩
  have wa := wrap_and c o
  have wn := wrap_andNot c w
  simp only [go_sem] at wa wn
  by_cases hz : c &&& o = 0#32
  · rw [show wo c o w = c &&& ~~~w from if_pos hz]
    have h0 : (c &&& o).toNat = 0 := by rw [hz]; rfl
    simp (maxSteps := 2000000) -implicitDefEqProofs [-getElem?_pos, List.getElem?_cons_zero, List.getElem?_cons_succ, go_sem, eqV, plen, loadV, storeV, uB, wa, wn, h0, -BitVec.toNat_and]
  · rw [show wo c o w = c from if_neg hz]
    have h0 : ¬ (c &&& o).toNat = 0 := fun h => hz (BitVec.eq_of_toNat_eq h)
    simp (maxSteps := 2000000) -implicitDefEqProofs [-getElem?_pos, List.getElem?_cons_zero, List.getElem?_cons_succ, go_sem, eqV, plen, loadV, storeV, uB, wa, wn, h0, -BitVec.toNat_and]
theorem without_ev (c o w : BitVec 32) (H : AM.Heap) : Ev1 X 28 [uB c, uB o, uB w] H (uB (wo c o w), H) := by
  obtain ⟨code, hb, hr⟩ := without_code c o w
  exact Ev1.plain (args := [uB c, uB o, uB w]) (l := [uB (wo c o w)]) (evT_below X) Tryd.func28 hb rfl rfl (by simp [gtag]) hr (.inr rfl) rfl rfl rfl

set_option maxRecDepth 100000 in
set_option maxHeartbeats 4000000 in
theorem rboth_code (a b : BitVec 32) : ∃ code, Tryd.f19.body = some code ∧ Run X (evT X) 19 0 code [(0, uB a), (1, uB b)] [] ⟨.ret, [(4, uB (bothB a b))], []⟩ := by
  refine ⟨_, rfl, 0, ?_⟩
  have wa := wrap_and a b
  simp only [go_sem] at wa
  have w1 := evT_eq (without_ev (a &&& b) 512#32 29294760#32 [])
  have w2 := evT_eq (without_ev (wo (a &&& b) 512#32 29294760#32) 524288#32 3145728#32 [])
  have w3 := evT_eq (without_ev (wo (wo (a &&& b) 512#32 29294760#32) 524288#32 3145728#32) 131072#32 65536#32 [])
  unfold bothB dropB
  generalize hx3 : wo (wo (wo (a &&& b) 512#32 29294760#32) 524288#32 3145728#32) 131072#32 65536#32 = x3 at *
  generalize hx2 : wo (wo (a &&& b) 512#32 29294760#32) 524288#32 3145728#32 = x2 at *
  generalize hx1 : wo (a &&& b) 512#32 29294760#32 = x1 at *
  clear hx1 hx2 hx3
  have k1 : uB 512#32 = .int .u32 512 := rfl
  have k2 : uB 29294760#32 = .int .u32 29294760 := rfl
  have k3 : uB 524288#32 = .int .u32 524288 := rfl
  have k4 : uB 3145728#32 = .int .u32 3145728 := rfl
  have k5 : uB 131072#32 = .int .u32 131072 := rfl
  have k6 : uB 65536#32 = .int .u32 65536 := rfl
  rw [k1, k2] at w1
  rw [k3, k4] at w2
  rw [k5, k6] at w3
  simp only [uB] at w1 w2 w3
  simp (maxSteps := 2000000) -implicitDefEqProofs [-getElem?_pos, List.getElem?_cons_zero, List.getElem?_cons_succ, go_sem, eqV, plen, loadV, storeV, uB, wa, w1, w2, w3, -BitVec.toNat_and]
theorem rboth_ev (a b : BitVec 32) (H : AM.Heap) : Ev1 X 19 [uB a, uB b] H (uB (bothB a b), H) := by
  obtain ⟨code, hb, hr⟩ := rboth_code a b
  exact Ev1.plain (args := [uB a, uB b]) (l := [uB (bothB a b)]) (evT_below X) Tryd.func19 hb rfl rfl (by simp [gtag]) hr (.inr rfl) rfl rfl rfl

end Go.Proofs.YtfkbemllgeopfaaDoor

/- Walks: the names of a word's bits, the document's. -/
namespace Go.Proofs.YtfkbemllgeopfaaDoor
open Go.AM
set_option linter.unusedSimpArgs false
set_option linter.unusedVariables false

def rnFr (c : BitVec 32) (l : List (List UInt8)) (i : Nat) : AM.Frame := [(0, uB c), (3, .sl 1 0 l.length l.length), (4, .int .i64 (i : Nat))]
def rnH (l : List (List UInt8)) : AM.Heap := [txO [], txO l]

set_option maxRecDepth 100000 in
set_option maxHeartbeats 4000000 in
theorem rnames_code (c : BitVec 32) : ∃ code, Tryd.f21.body = some code ∧
    Run X (evT X) 21 0 code [(0, uB c)] [] ⟨.ret, [(2, .sl 1 0 (nmsB c 32).length (nmsB c 32).length)], rnH (nmsB c 32)⟩ := by
  refine ⟨_, rfl, ?_⟩
  apply Run.seq (fr' := [(0, uB c)]) (H' := [txO []])
  · rw [txO_nil]
    (refine ⟨0, ?_⟩; simp (maxSteps := 2000000) -implicitDefEqProofs [-getElem?_pos, List.getElem?_cons_zero, List.getElem?_cons_succ, go_sem, eqV, plen, loadV, storeV, uB, assignV])
  apply Run.seq (fr' := [(0, uB c), (3, .sl 1 0 0 0)]) (H' := rnH [])
  · unfold rnH
    rw [txO_nil]
    (refine ⟨0, ?_⟩; simp (maxSteps := 2000000) -implicitDefEqProofs [-getElem?_pos, List.getElem?_cons_zero, List.getElem?_cons_succ, go_sem, eqV, plen, loadV, storeV, uB, assignV])
  apply Run.seq (fr' := rnFr c (nmsB c 32) 32 ++ [(6, .bool false)]) (H' := rnH (nmsB c 32))
  · apply Run.seq (fr' := rnFr c [] 0) (H' := rnH [])
    · (refine ⟨0, ?_⟩; simp (maxSteps := 2000000) -implicitDefEqProofs [-getElem?_pos, List.getElem?_cons_zero, List.getElem?_cons_succ, go_sem, eqV, plen, loadV, storeV, rnFr, rnH, uB])
    apply Run.block_exit
    refine Run.loop_rule (σ := Nat) (fun i => i ≤ 32) (fun i => rnFr c (nmsB c i) i) (fun i => rnH (nmsB c i)) (fun _ => ⟨.exit 0, rnFr c (nmsB c 32) 32 ++ [(6, .bool false)], rnH (nmsB c 32)⟩) (fun i => 32 - i) ?_ 0 (by omega)
    intro i hi
    by_cases h32 : i = 32
    · right
      refine ⟨?_, by simp⟩
      subst h32
      (refine ⟨0, ?_⟩; simp (maxSteps := 2000000) -implicitDefEqProofs [-getElem?_pos, List.getElem?_cons_zero, List.getElem?_cons_succ, go_sem, eqV, plen, loadV, storeV, rnFr])
    · left
      have hlt : i < 32 := by omega
      have hltI : (i : Int) < 32 := by omega
      have hi0 : ¬ (i : Int) < 0 := by omega
      have hsd := shr_bit c hlt
      have hmb : IntKind.u32.bits = 32 := rfl
      have hmb2 : IntKind.u64.bits = 64 := rfl
      have wu : IntKind.u64.wrap (i : Int) = (i : Nat) := wrap_u64 (by omega) (by omega)
      have hb1 := bit_and1 c i
      have w1 : IntKind.i64.wrap ((i : Int) + 1) = ((i + 1 : Nat) : Int) := by rw [wrap_i64 (by omega) (by omega)]; omega
      refine ⟨i + 1, by omega, ?_, rfl, by omega⟩
      have hlen := nmsB_len c i
      by_cases hb : c.getLsbD i = true
      · have hA := app_tx (H := rnH (nmsB c i)) (o := 1) (nmsB c i) (nm i) rfl (by omega)
        have hN := evT_eq (name_ev hlt (rnH (nmsB c i)))
        rw [show nmsB c (i + 1) = nmsB c i ++ [nm i] by rw [nmsB, if_pos hb]]
        rw [if_pos hb] at hb1
        generalize nmsB c i = l at *
        generalize nm i = s at *
        have hz : IntKind.u32.wrap ((AM.bits .u32 ((c >>> i).toNat : Int) &&& AM.bits .u32 1).toNat : Nat) = 1 := by rw [wrap_and1, hb1]; rfl
        simp only [go_sem] at hz
        unfold rnH at *
        (refine ⟨0, ?_⟩; simp (maxSteps := 2000000) -implicitDefEqProofs [-getElem?_pos, List.getElem?_cons_zero, List.getElem?_cons_succ, go_sem, eqV, plen, loadV, storeV, uB, rnFr, hltI, hsd, hi0, -BitVec.toNat_ushiftRight, -BitVec.toNat_and, hmb, hmb2, wu, hz, w1, hA, bs_tx, hN, upd])
      · rw [show nmsB c (i + 1) = nmsB c i by rw [nmsB, if_neg hb]]
        rw [if_neg hb] at hb1
        have hz : IntKind.u32.wrap ((AM.bits .u32 ((c >>> i).toNat : Int) &&& AM.bits .u32 1).toNat : Nat) = 0 := by rw [wrap_and1, hb1]; rfl
        simp only [go_sem] at hz
        (refine ⟨0, ?_⟩; simp (maxSteps := 2000000) -implicitDefEqProofs [-getElem?_pos, List.getElem?_cons_zero, List.getElem?_cons_succ, go_sem, eqV, plen, loadV, storeV, uB, rnFr, hltI, hsd, hi0, -BitVec.toNat_ushiftRight, -BitVec.toNat_and, hmb, hmb2, wu, hz, w1])
  refine ⟨0, ?_⟩
  simp (maxSteps := 2000000) -implicitDefEqProofs [-getElem?_pos, List.getElem?_cons_zero, List.getElem?_cons_succ, go_sem, eqV, plen, loadV, storeV, rnFr]

theorem rnms_ev (c : BitVec 32) (H : AM.Heap) : Ev1 X 21 [uB c] H (.sl H.length 0 (nmsB c 32).length 0, H ++ [txF (nmsB c 32)]) := by
  obtain ⟨code, hb, hr⟩ := rnames_code c
  have := Ev1.freshQ (H := H) (args := [uB c]) (l := [.sl 1 0 (nmsB c 32).length (nmsB c 32).length]) (o := 1) (g := (nmsB c 32).length) (ob := ⟨tx (nmsB c 32), (nmsB c 32).length, .none, (if (nmsB c 32).length ≤ 1 then 0 else 1), true, false, 0⟩)
    (evT_below X) Tryd.func21 hb rfl rfl (by simp [gtag]) hr (.inr rfl) rfl rfl rfl (by simp [live, rnH, txO]) rfl (ids_tx _) (tags_tx _) rfl rfl
  simpa [resultV, ren, AM.fresh, txF] using this

end Go.Proofs.YtfkbemllgeopfaaDoor

/- Walks: the names of flags, the document's. -/
namespace Go.Proofs.YtfkbemllgeopfaaDoor
open Go.AM
set_option linter.unusedSimpArgs false
set_option linter.unusedVariables false

/-- a flag's name -/
def sN (k : Nat) : List UInt8 := if k = 0 then [105, 110, 45, 116, 114, 97, 110, 115] else if k = 1 then [97, 117, 116, 111, 99, 111, 109, 109, 105, 116] else if k = 3 then [109, 111, 114, 101, 45, 114, 101, 115, 117, 108, 116, 115] else if k = 6 then [99, 117, 114, 115, 111, 114] else if k = 7 then [108, 97, 115, 116, 45, 114, 111, 119] else if k = 13 then [105, 110, 45, 116, 114, 97, 110, 115, 45, 114, 101, 97, 100] else if k = 14 then [115, 116, 97, 116, 101, 45, 99, 104, 97, 110, 103, 101, 100] else bitN k
/-- the names of the flags below i -/
def stB (s : BitVec 16) : Nat → List (List UInt8)
  | 0 => []
  | i + 1 => if s.getLsbD i then stB s i ++ [sN i] else stB s i

theorem stB_len (s : BitVec 16) : ∀ i, (stB s i).length ≤ i
  | 0 => by simp [stB]
  | i + 1 => by
    have := stB_len s i
    unfold stB
    split
    · simp; omega
    · omega

def uC (x : BitVec 16) : AV := .int .u16 (x.toNat : Nat)
theorem bits_uC (x : BitVec 16) : AM.bits .u16 (x.toNat : Int) = x := by
  show BitVec.ofInt 16 (x.toNat : Int) = x
  simp
theorem wrap_uC (x : BitVec 16) : IntKind.u16.wrap (x.toNat : Int) = x.toNat := wrap_u16 (by omega) (by have := x.isLt; omega)
theorem wrap_c1 (x : BitVec 16) : IntKind.u16.wrap ((AM.bits .u16 (x.toNat : Int) &&& AM.bits .u16 1).toNat : Nat) = ((x &&& 1#16).toNat : Nat) := by
  rw [bits_uC, show AM.bits .u16 1 = 1#16 from rfl]
  exact wrap_uC (x &&& 1#16)
theorem bit_c1 (c : BitVec 16) (i : Nat) : ((c >>> i) &&& 1#16).toNat = if c.getLsbD i then 1 else 0 := by
  rw [BitVec.toNat_and, BitVec.toNat_ushiftRight]
  show (c.toNat >>> i) &&& 1 = _
  rw [Nat.and_one_is_mod]
  unfold BitVec.getLsbD Nat.testBit
  rw [Nat.and_comm, Nat.and_one_is_mod]
  have : (c.toNat >>> i) % 2 < 2 := Nat.mod_lt _ (by omega)
  rcases (show (c.toNat >>> i) % 2 = 0 ∨ (c.toNat >>> i) % 2 = 1 by omega) with h | h <;> simp [h]
theorem shr_c (c : BitVec 16) {i : Nat} (hi : i < 16) : Int.fdiv (c.toNat : Int) (2 ^ (min i 16)) = ((c >>> i).toNat : Nat) := by
  rw [Nat.min_eq_left (by omega), BitVec.toNat_ushiftRight, Nat.shiftRight_eq_div_pow]
  rw [show ((2 : Int) ^ i) = ((2 ^ i : Nat) : Int) by simp]
  rw [Int.fdiv_eq_ediv_of_nonneg _ (Int.natCast_nonneg _)]
  exact (Int.natCast_ediv _ _).symm

def rsFr (s : BitVec 16) (l : List (List UInt8)) (i : Nat) (tl : AM.Frame) : AM.Frame := [(0, uC s), (3, .sl 1 0 l.length l.length), (4, .int .i64 (i : Nat))] ++ tl

set_option maxRecDepth 100000 in
set_option maxHeartbeats 8000000 in
theorem rs_sw (s : BitVec 16) (l : List (List UInt8)) (i : Nat) (hi : i < 16) (hl : l.length ≤ 100000) : ∃ code, ((Tryd.f22.body).bind (codeAt [1, 1, 0, 1, 0, 0, 1, 0, 0, 1])) = some code ∧
    Run X (evT X) 22 0 code (rsFr s l i [(14, .bool false)]) (rnH l) ⟨.normal, rsFr s (l ++ [sN i]) i [], rnH (l ++ [sN i])⟩ := by
  refine ⟨_, rfl, ?_⟩
  have hA := fun x => app_tx (H := rnH l) (o := 1) l x rfl hl
  have hB := evT_eq (bit_ev (show i < 32 by omega) (rnH l))
  have hc : i = 0 ∨ i = 1 ∨ i = 2 ∨ i = 3 ∨ i = 4 ∨ i = 5 ∨ i = 6 ∨ i = 7 ∨ i = 8 ∨ i = 9 ∨ i = 10 ∨ i = 11 ∨ i = 12 ∨ i = 13 ∨ i = 14 ∨ i = 15 := by omega
  rcases hc with rfl | rfl | rfl | rfl | rfl | rfl | rfl | rfl | rfl | rfl | rfl | rfl | rfl | rfl | rfl | rfl
  all_goals
    simp only [sN, Nat.reduceEqDiff, if_true, if_false, reduceCtorEq]
    simp only [rnH] at hA hB ⊢
    try simp only [Int.cast_ofNat_Int] at hB
    (refine ⟨0, ?_⟩; simp (maxSteps := 2000000) -implicitDefEqProofs [-getElem?_pos, List.getElem?_cons_zero, List.getElem?_cons_succ, go_sem, eqV, plen, loadV, storeV, uC, rsFr, hA, hB, bs_tx, upd])

set_option maxRecDepth 100000 in
set_option maxHeartbeats 4000000 in
theorem rstatus_code (s : BitVec 16) : ∃ code, Tryd.f22.body = some code ∧
    Run X (evT X) 22 0 code [(0, uC s)] [] ⟨.ret, [(2, .sl 1 0 (stB s 16).length (stB s 16).length)], rnH (stB s 16)⟩ := by
  refine ⟨_, rfl, ?_⟩
  apply Run.seq (fr' := [(0, uC s)]) (H' := [txO []])
  · rw [txO_nil]
    (refine ⟨0, ?_⟩; simp (maxSteps := 2000000) -implicitDefEqProofs [-getElem?_pos, List.getElem?_cons_zero, List.getElem?_cons_succ, go_sem, eqV, plen, loadV, storeV, uC, assignV])
  apply Run.seq (fr' := [(0, uC s), (3, .sl 1 0 0 0)]) (H' := rnH [])
  · unfold rnH
    rw [txO_nil]
    (refine ⟨0, ?_⟩; simp (maxSteps := 2000000) -implicitDefEqProofs [-getElem?_pos, List.getElem?_cons_zero, List.getElem?_cons_succ, go_sem, eqV, plen, loadV, storeV, uC, assignV])
  apply Run.seq (fr' := rsFr s (stB s 16) 16 [(6, .bool false)]) (H' := rnH (stB s 16))
  · apply Run.seq (fr' := rsFr s [] 0 []) (H' := rnH [])
    · (refine ⟨0, ?_⟩; simp (maxSteps := 2000000) -implicitDefEqProofs [-getElem?_pos, List.getElem?_cons_zero, List.getElem?_cons_succ, go_sem, eqV, plen, loadV, storeV, rsFr, rnH, uC])
    apply Run.block_exit
    refine Run.loop_rule (σ := Nat) (fun i => i ≤ 16) (fun i => rsFr s (stB s i) i []) (fun i => rnH (stB s i)) (fun _ => ⟨.exit 0, rsFr s (stB s 16) 16 [(6, .bool false)], rnH (stB s 16)⟩) (fun i => 16 - i) ?_ 0 (by omega)
    intro i hi
    by_cases h32 : i = 16
    · right
      refine ⟨?_, by simp⟩
      subst h32
      (refine ⟨0, ?_⟩; simp (maxSteps := 2000000) -implicitDefEqProofs [-getElem?_pos, List.getElem?_cons_zero, List.getElem?_cons_succ, go_sem, eqV, plen, loadV, storeV, rsFr])
    · left
      have hlt : i < 16 := by omega
      have hltI : (i : Int) < 16 := by omega
      have hi0 : ¬ (i : Int) < 0 := by omega
      have hsd := shr_c s hlt
      have hmb : IntKind.u16.bits = 16 := rfl
      have hmb2 : IntKind.u64.bits = 64 := rfl
      have wu : IntKind.u64.wrap (i : Int) = (i : Nat) := wrap_u64 (by omega) (by omega)
      have hb1 := bit_c1 s i
      have w1 : IntKind.i64.wrap ((i : Int) + 1) = ((i + 1 : Nat) : Int) := by rw [wrap_i64 (by omega) (by omega)]; omega
      refine ⟨i + 1, by omega, ?_, rfl, by omega⟩
      have hlen := stB_len s i
      apply Run.seq (fr' := rsFr s (stB s i) i [(6, .bool true)]) (H' := rnH (stB s i))
      · apply Run.seq (fr' := rsFr s (stB s i) i [(6, .bool true)]) (H' := rnH (stB s i))
        · (refine ⟨0, ?_⟩; simp (maxSteps := 2000000) -implicitDefEqProofs [-getElem?_pos, List.getElem?_cons_zero, List.getElem?_cons_succ, go_sem, eqV, plen, loadV, storeV, rsFr, hltI])
        · exact Run.cond (d := true) rfl ⟨0, rfl⟩
      by_cases hb : s.getLsbD i = true
      · rw [if_pos hb] at hb1
        have hz : IntKind.u16.wrap ((AM.bits .u16 ((s >>> i).toNat : Int) &&& AM.bits .u16 1).toNat : Nat) = 1 := by rw [wrap_c1, hb1]; rfl
        simp only [go_sem] at hz
        have hS := rs_sw s (stB s i) i hlt (by omega)
        rw [show stB s (i + 1) = stB s i ++ [sN i] by rw [stB, if_pos hb]]
        generalize stB s i = l at *
        apply Run.seq (fr' := rsFr s (l ++ [sN i]) i []) (H' := rnH (l ++ [sN i]))
        · refine Run.block ?_ (by simp)
          apply Run.seq (fr' := rsFr s l i [(14, .bool false)]) (H' := rnH l)
          · apply Run.seq (fr' := rsFr s l i [(14, .bool false)]) (H' := rnH l)
            · (refine ⟨0, ?_⟩; simp (maxSteps := 2000000) -implicitDefEqProofs [-getElem?_pos, List.getElem?_cons_zero, List.getElem?_cons_succ, go_sem, eqV, plen, loadV, storeV, uC, rsFr, hsd, hi0, -BitVec.toNat_ushiftRight, -BitVec.toNat_and, hmb, hmb2, wu, hz])
            · exact Run.cond (d := false) rfl ⟨0, rfl⟩
          exact piece hS _ rfl
        · (refine ⟨0, ?_⟩; simp (maxSteps := 2000000) -implicitDefEqProofs [-getElem?_pos, List.getElem?_cons_zero, List.getElem?_cons_succ, go_sem, eqV, plen, loadV, storeV, rsFr, w1])
      · rw [if_neg hb] at hb1
        have hz : IntKind.u16.wrap ((AM.bits .u16 ((s >>> i).toNat : Int) &&& AM.bits .u16 1).toNat : Nat) = 0 := by rw [wrap_c1, hb1]; rfl
        simp only [go_sem] at hz
        rw [show stB s (i + 1) = stB s i by rw [stB, if_neg hb]]
        generalize stB s i = l at *
        apply Run.seq (fr' := rsFr s l i [(14, .bool true)]) (H' := rnH l)
        · (refine ⟨0, ?_⟩; simp (maxSteps := 2000000) -implicitDefEqProofs [-getElem?_pos, List.getElem?_cons_zero, List.getElem?_cons_succ, go_sem, eqV, plen, loadV, storeV, uC, rsFr, hsd, hi0, -BitVec.toNat_ushiftRight, -BitVec.toNat_and, hmb, hmb2, wu, hz])
        · (refine ⟨0, ?_⟩; simp (maxSteps := 2000000) -implicitDefEqProofs [-getElem?_pos, List.getElem?_cons_zero, List.getElem?_cons_succ, go_sem, eqV, plen, loadV, storeV, rsFr, w1])
  refine ⟨0, ?_⟩
  simp (maxSteps := 2000000) -implicitDefEqProofs [-getElem?_pos, List.getElem?_cons_zero, List.getElem?_cons_succ, go_sem, eqV, plen, loadV, storeV, rsFr]

theorem rst_ev (s : BitVec 16) (H : AM.Heap) : Ev1 X 22 [uC s] H (.sl H.length 0 (stB s 16).length 0, H ++ [txF (stB s 16)]) := by
  obtain ⟨code, hb, hr⟩ := rstatus_code s
  have := Ev1.freshQ (H := H) (args := [uC s]) (l := [.sl 1 0 (stB s 16).length (stB s 16).length]) (o := 1) (g := (stB s 16).length) (ob := ⟨tx (stB s 16), (stB s 16).length, .none, (if (stB s 16).length ≤ 1 then 0 else 1), true, false, 0⟩)
    (evT_below X) Tryd.func22 hb rfl rfl (by simp [gtag]) hr (.inr rfl) rfl rfl rfl (by simp [live, rnH, txO]) rfl (ids_tx _) (tags_tx _) rfl rfl
  simpa [resultV, ren, AM.fresh, txF] using this

end Go.Proofs.YtfkbemllgeopfaaDoor

/- Walks: the names of flags. -/
namespace Go.Proofs.YtfkbemllgeopfaaDoor
open Go.AM
set_option linter.unusedSimpArgs false
set_option linter.unusedVariables false

/-- the known flags -/
def kvO : Option AM.Obj := some ⟨.pm [.pc [.int .i64 0, .str [105, 110, 45, 116, 114, 97, 110, 115]], .pc [.int .i64 1, .str [97, 117, 116, 111, 99, 111, 109, 109, 105, 116]], .pc [.int .i64 3, .str [109, 111, 114, 101, 45, 114, 101, 115, 117, 108, 116, 115]], .pc [.int .i64 6, .str [99, 117, 114, 115, 111, 114]], .pc [.int .i64 7, .str [108, 97, 115, 116, 45, 114, 111, 119]], .pc [.int .i64 13, .str [105, 110, 45, 116, 114, 97, 110, 115, 45, 114, 101, 97, 100]], .pc [.int .i64 14, .str [115, 116, 97, 116, 101, 45, 99, 104, 97, 110, 103, 101, 100]]], 0, none, 1, false, true, 0⟩
def isK (k : Nat) : Bool := k == 0 || k == 1 || k == 3 || k == 6 || k == 7 || k == 13 || k == 14
theorem kv_look (a b : Option AM.Obj) {i : Nat} (hi : i < 16) : lookupV X [a, kvO, b] 47 (.map 1 0) (.int .i64 (i : Nat)) true = some (.tup [.str (if isK i then sN i else []), .bool (isK i)]) := by
  have hc : i = 0 ∨ i = 1 ∨ i = 2 ∨ i = 3 ∨ i = 4 ∨ i = 5 ∨ i = 6 ∨ i = 7 ∨ i = 8 ∨ i = 9 ∨ i = 10 ∨ i = 11 ∨ i = 12 ∨ i = 13 ∨ i = 14 ∨ i = 15 := by omega
  rcases hc with rfl | rfl | rfl | rfl | rfl | rfl | rfl | rfl | rfl | rfl | rfl | rfl | rfl | rfl | rfl | rfl
  all_goals rfl

theorem sN_bit {i : Nat} (hi : i < 16) (h : isK i = false) : sN i = 98 :: 105 :: 116 :: 45 :: dig i := by
  have hc : i = 0 ∨ i = 1 ∨ i = 2 ∨ i = 3 ∨ i = 4 ∨ i = 5 ∨ i = 6 ∨ i = 7 ∨ i = 8 ∨ i = 9 ∨ i = 10 ∨ i = 11 ∨ i = 12 ∨ i = 13 ∨ i = 14 ∨ i = 15 := by omega
  rcases hc with rfl | rfl | rfl | rfl | rfl | rfl | rfl | rfl | rfl | rfl | rfl | rfl | rfl | rfl | rfl | rfl
  all_goals first | rfl | (exact absurd h (by decide))

def stFr (s : BitVec 16) (l : List (List UInt8)) (i : Nat) (tl : AM.Frame) : AM.Frame := [(0, uC s), (3, .map 1 0), (4, .sl 2 0 l.length l.length), (10, .int .i64 (i : Nat))] ++ tl
def stH (l : List (List UInt8)) : AM.Heap := [txO [], kvO, txO l]

set_option maxRecDepth 100000 in
set_option maxHeartbeats 8000000 in
theorem status_code (s : BitVec 16) : ∃ code, Tryd.f12.body = some code ∧
    Run X (evT X) 12 0 code [(0, uC s)] [] ⟨.ret, [(2, .sl 2 0 (stB s 16).length (stB s 16).length)], stH (stB s 16)⟩ := by
  refine ⟨_, rfl, ?_⟩
  apply Run.seq (fr' := [(0, uC s)]) (H' := [txO []])
  · rw [txO_nil]
    (refine ⟨0, ?_⟩; simp (maxSteps := 2000000) -implicitDefEqProofs [-getElem?_pos, List.getElem?_cons_zero, List.getElem?_cons_succ, go_sem, eqV, plen, loadV, storeV, uC, assignV])
  apply Run.seq (fr' := [(0, uC s), (3, .map 1 0)]) (H' := [txO [], kvO])
  · generalize txO [] = a at *
    exact ⟨0, rfl⟩
  apply Run.seq (fr' := [(0, uC s), (3, .map 1 0), (4, .sl 2 0 0 0)]) (H' := stH [])
  · unfold stH
    generalize kvO = k at *
    rw [txO_nil]
    (refine ⟨0, ?_⟩; simp (maxSteps := 2000000) -implicitDefEqProofs [-getElem?_pos, List.getElem?_cons_zero, List.getElem?_cons_succ, go_sem, eqV, plen, loadV, storeV, uC, assignV])
  apply Run.seq (fr' := stFr s (stB s 16) 16 [(11, .bool false)]) (H' := stH (stB s 16))
  · apply Run.seq (fr' := stFr s [] 0 []) (H' := stH [])
    · (refine ⟨0, ?_⟩; simp (maxSteps := 2000000) -implicitDefEqProofs [-getElem?_pos, List.getElem?_cons_zero, List.getElem?_cons_succ, go_sem, eqV, plen, loadV, storeV, stFr, stH, uC])
    apply Run.block_exit
    refine Run.loop_rule (σ := Nat) (fun i => i ≤ 16) (fun i => stFr s (stB s i) i []) (fun i => stH (stB s i)) (fun _ => ⟨.exit 0, stFr s (stB s 16) 16 [(11, .bool false)], stH (stB s 16)⟩) (fun i => 16 - i) ?_ 0 (by omega)
    intro i hi
    by_cases h32 : i = 16
    · right
      refine ⟨?_, by simp⟩
      subst h32
      (refine ⟨0, ?_⟩; simp (maxSteps := 2000000) -implicitDefEqProofs [-getElem?_pos, List.getElem?_cons_zero, List.getElem?_cons_succ, go_sem, eqV, plen, loadV, storeV, stFr])
    · left
      have hlt : i < 16 := by omega
      have hltI : (i : Int) < 16 := by omega
      have hi0 : ¬ (i : Int) < 0 := by omega
      have hsd := shr_c s hlt
      have hmb : IntKind.u16.bits = 16 := rfl
      have hb1 := bit_c1 s i
      have w1 : IntKind.i64.wrap ((i : Int) + 1) = ((i + 1 : Nat) : Int) := by rw [wrap_i64 (by omega) (by omega)]; omega
      refine ⟨i + 1, by omega, ?_, rfl, by omega⟩
      have hlen := stB_len s i
      by_cases hb : s.getLsbD i = true
      · rw [if_pos hb] at hb1
        have hz : IntKind.u16.wrap ((AM.bits .u16 ((s >>> i).toNat : Int) &&& AM.bits .u16 1).toNat : Nat) = 1 := by rw [wrap_c1, hb1]; rfl
        simp only [go_sem] at hz
        rw [show stB s (i + 1) = stB s i ++ [sN i] by rw [stB, if_pos hb]]
        generalize stB s i = l at *
        have hL := kv_look (txO []) (txO l) hlt
        have hA := fun x => app_tx (H := stH l) (o := 2) l x rfl (by omega)
        have hI := evT_eq (itoa_ev (show i < 32 by omega) (stH l))
        have hdl : 4 + (dig i).length ≤ 9223372036854775807 := by unfold dig; split <;> simp
        simp only [stH] at hA hI ⊢
        cases hk : isK i with
        | true =>
          rw [hk] at hL
          simp only [if_true] at hL
          generalize sN i = nme at *
          (refine ⟨0, ?_⟩; simp (maxSteps := 2000000) -implicitDefEqProofs [-getElem?_pos, List.getElem?_cons_zero, List.getElem?_cons_succ, go_sem, eqV, plen, loadV, storeV, uC, stFr, hltI, hsd, hi0, -BitVec.toNat_ushiftRight, -BitVec.toNat_and, hmb, hz, hL, hA, bs_tx, w1, upd])
        | false =>
          rw [hk] at hL
          simp only [Bool.false_eq_true, if_false] at hL
          rw [sN_bit hlt hk]
          (refine ⟨0, ?_⟩; simp (maxSteps := 2000000) -implicitDefEqProofs [-getElem?_pos, List.getElem?_cons_zero, List.getElem?_cons_succ, go_sem, eqV, plen, loadV, storeV, uC, stFr, hltI, hsd, hi0, -BitVec.toNat_ushiftRight, -BitVec.toNat_and, hmb, hz, hL, hA, hI, bs_tx, w1, upd, strOp, hdl])
      · rw [if_neg hb] at hb1
        have hz : IntKind.u16.wrap ((AM.bits .u16 ((s >>> i).toNat : Int) &&& AM.bits .u16 1).toNat : Nat) = 0 := by rw [wrap_c1, hb1]; rfl
        simp only [go_sem] at hz
        rw [show stB s (i + 1) = stB s i by rw [stB, if_neg hb]]
        generalize stB s i = l at *
        (refine ⟨0, ?_⟩; simp (maxSteps := 2000000) -implicitDefEqProofs [-getElem?_pos, List.getElem?_cons_zero, List.getElem?_cons_succ, go_sem, eqV, plen, loadV, storeV, uC, stFr, hltI, hsd, hi0, -BitVec.toNat_ushiftRight, -BitVec.toNat_and, hmb, hz, w1])
  refine ⟨0, ?_⟩
  simp (maxSteps := 2000000) -implicitDefEqProofs [-getElem?_pos, List.getElem?_cons_zero, List.getElem?_cons_succ, go_sem, eqV, plen, loadV, storeV, stFr]

theorem st_ev (s : BitVec 16) (H : AM.Heap) : Ev1 X 12 [uC s] H (.sl H.length 0 (stB s 16).length 0, H ++ [txF (stB s 16)]) := by
  obtain ⟨code, hb, hr⟩ := status_code s
  have := Ev1.freshQ (H := H) (args := [uC s]) (l := [.sl 2 0 (stB s 16).length (stB s 16).length]) (o := 2) (g := (stB s 16).length) (ob := ⟨tx (stB s 16), (stB s 16).length, .none, (if (stB s 16).length ≤ 1 then 0 else 1), true, false, 0⟩)
    (evT_below X) Tryd.func12 hb rfl rfl (by simp [gtag]) hr (.inr rfl) rfl rfl rfl (by simp [live, stH, txO]) rfl (ids_tx _) (tags_tx _) rfl rfl
  simpa [resultV, ren, AM.fresh, txF] using this

end Go.Proofs.YtfkbemllgeopfaaDoor

/- Walks: the word of some names, the document's. -/
namespace Go.Proofs.YtfkbemllgeopfaaDoor
open Go.AM
set_option linter.unusedSimpArgs false
set_option linter.unusedVariables false

section
variable (cc : Nat) (l : List (List UInt8))

def roFr (k : Nat) (c : BitVec 32) (tl : AM.Frame) : AM.Frame := [(0, .ro cc (tx l) 1), (3, .ptr 0 0 0 0), (4, uB c), (5, .int .i64 (k : Nat))] ++ tl

set_option maxRecDepth 100000 in
set_option maxHeartbeats 4000000 in
/-- is this the bit's name? -/
theorem ro_r9 (k j : Nat) (c : BitVec 32) (fd : Int) (s : List UInt8) (hs : l[k]? = some s) (hj : j < 32) :
    ∃ code, ((Tryd.f16.body).bind (codeAt [1, 1, 0, 1, 0, 0, 1, 0, 0, 1, 0, 1, 0, 0, 1, 0, 0, 0])) = some code ∧ Run X (evT X) 16 0 code (roFr cc l k c [(6, .int .i64 fd), (7, .int .i64 (j : Nat)), (15, .bool true)]) [fltO 0 0] ⟨.normal, roFr cc l k c [(6, .int .i64 fd), (7, .int .i64 (j : Nat)), (24, .bool (nm j == s))], [fltO 0 0]⟩ := by
  refine ⟨_, rfl, ?_⟩
  have hlt : k < l.length := (List.getElem?_eq_some_iff.1 hs).1
  have hltI : (k : Int) < (l.length : Int) := by omega
  have hsa := tx_at hs
  have hN := evT_eq (name_ev hj [fltO 0 0])
  generalize nm j = n at *
  apply Run.dy (by simp) keep16_9 (by simp)
  · unfold roFr
    (conv => lhs; simp (maxSteps := 2000000) -implicitDefEqProofs [-getElem?_pos, List.getElem?_cons_zero, List.getElem?_cons_succ, go_sem, eqV, plen, loadV, storeV, runD, out1, markOf, freeO, quietO, pushes, isAssign, calledV, touched, mentioned, opVals, touchCall, mentionCall, idsAt, Op.operands, ids, idsL, lendArgs, lendV, lend1, lendL, eqH_self, uB, tx, hN, hltI, hsa, strOp])
  · first | kernel_rfl | (simp [marksOk]; done)
  · simp only [roFr]
    rfl

set_option maxRecDepth 100000 in
set_option maxHeartbeats 4000000 in
/-- which bit has the name? -/
theorem ro_in (k : Nat) (c : BitVec 32) (s : List UInt8) (hs : l[k]? = some s) :
    ∃ code, ((Tryd.f16.body).bind (codeAt [1, 1, 0, 1, 0, 0, 1, 0, 0, 1, 0, 1])) = some code ∧ Run X (evT X) 16 0 code (roFr cc l k c [(6, .int .i64 (-1)), (7, .int .i64 0)]) [fltO 0 0] ⟨.normal, roFr cc l k c [(6, .int .i64 (fdR s 32)), (7, .int .i64 32), (15, .bool false)], [fltO 0 0]⟩ := by
  refine ⟨_, rfl, ?_⟩
  apply Run.block_exit
  refine Run.loop_rule (σ := Nat) (fun j => j ≤ 32) (fun j => roFr cc l k c [(6, .int .i64 (fdR s j)), (7, .int .i64 (j : Nat))]) (fun _ => [fltO 0 0]) (fun _ => ⟨.exit 2, roFr cc l k c [(6, .int .i64 (fdR s 32)), (7, .int .i64 32), (15, .bool false)], [fltO 0 0]⟩) (fun j => 32 - j) ?_ 0 (by omega)
  intro j hj
  by_cases h32 : j = 32
  · right
    refine ⟨?_, by simp⟩
    subst h32
    generalize fdR s 32 = fd
    (refine ⟨0, ?_⟩; simp (maxSteps := 2000000) -implicitDefEqProofs [-getElem?_pos, List.getElem?_cons_zero, List.getElem?_cons_succ, go_sem, eqV, plen, loadV, storeV, roFr])
  · left
    have hlt : j < 32 := by omega
    have hltI : (j : Int) < 32 := by omega
    have w1 : IntKind.i64.wrap ((j : Int) + 1) = ((j + 1 : Nat) : Int) := by rw [wrap_i64 (by omega) (by omega)]; omega
    refine ⟨j + 1, by omega, ?_, rfl, by omega⟩
    have hR := ro_r9 cc l k j c (fdR s j) s hs hlt
    rw [show fdR s (j + 1) = if nm j = s then (j : Int) else fdR s j from rfl]
    generalize fdR s j = fd at *
    apply Run.seq (fr' := roFr cc l k c [(6, .int .i64 fd), (7, .int .i64 (j : Nat)), (15, .bool true)]) (H' := [fltO 0 0])
    · apply Run.seq (fr' := roFr cc l k c [(6, .int .i64 fd), (7, .int .i64 (j : Nat)), (15, .bool true)]) (H' := [fltO 0 0])
      · (refine ⟨0, ?_⟩; simp (maxSteps := 2000000) -implicitDefEqProofs [-getElem?_pos, List.getElem?_cons_zero, List.getElem?_cons_succ, go_sem, eqV, plen, loadV, storeV, roFr, hltI])
      · exact Run.cond (d := true) rfl ⟨0, rfl⟩
    by_cases he : nm j = s
    · rw [if_pos he]
      have hq : (nm j == s) = true := by simpa using he
      rw [hq] at hR
      apply Run.seq (fr' := roFr cc l k c [(6, .int .i64 (j : Nat)), (7, .int .i64 (j : Nat))]) (H' := [fltO 0 0])
      · refine Run.block ?_ (by simp)
        refine Run.seq (piece hR _ rfl) ?_
        (refine ⟨0, ?_⟩; simp (maxSteps := 2000000) -implicitDefEqProofs [-getElem?_pos, List.getElem?_cons_zero, List.getElem?_cons_succ, go_sem, eqV, plen, loadV, storeV, roFr])
      · (refine ⟨0, ?_⟩; simp (maxSteps := 2000000) -implicitDefEqProofs [-getElem?_pos, List.getElem?_cons_zero, List.getElem?_cons_succ, go_sem, eqV, plen, loadV, storeV, roFr, w1])
    · rw [if_neg he]
      have hq : (nm j == s) = false := by simpa using he
      rw [hq] at hR
      apply Run.seq (fr' := roFr cc l k c [(6, .int .i64 fd), (7, .int .i64 (j : Nat)), (24, .bool false)]) (H' := [fltO 0 0])
      · refine Run.block ?_ (by simp)
        refine Run.seq (piece hR _ rfl) ?_
        (refine ⟨0, ?_⟩; simp (maxSteps := 2000000) -implicitDefEqProofs [-getElem?_pos, List.getElem?_cons_zero, List.getElem?_cons_succ, go_sem, eqV, plen, loadV, storeV, roFr])
      · (refine ⟨0, ?_⟩; simp (maxSteps := 2000000) -implicitDefEqProofs [-getElem?_pos, List.getElem?_cons_zero, List.getElem?_cons_succ, go_sem, eqV, plen, loadV, storeV, roFr, w1])

theorem bd29k (x y : Int) : buildV X 29 [(0, .int .i64 x), (1, .int .i64 y)] = some (.agg (.pc [.int .i64 x, .int .i64 y])) := by kernel_rfl

set_option maxRecDepth 100000 in
set_option maxHeartbeats 8000000 in
theorem rof_code (hl : l.length < 9223372036854775808) : ∃ code, Tryd.f16.body = some code ∧
    Tells (Rets fun fr H => fr = [(2, uB (ofR l 0 0#32).1), (3, .ptr 0 0 0 0)] ∧ H = [fltO (ofR l 0 0#32).2.1 (ofR l 0 0#32).2.2]) X (evT X) 16 0 code [(0, .ro cc (tx l) 1)] [] := by
  refine ⟨_, rfl, ?_⟩
  apply Tells.seq (fr' := [(0, .ro cc (tx l) 1), (3, .ptr 0 0 0 0)]) (H' := [fltO 0 0])
  · (refine ⟨0, ?_⟩; simp (maxSteps := 2000000) -implicitDefEqProofs [-getElem?_pos, List.getElem?_cons_zero, List.getElem?_cons_succ, go_sem, eqV, plen, loadV, storeV, fltO])
  apply Tells.seq (fr' := [(0, .ro cc (tx l) 1), (3, .ptr 0 0 0 0), (4, uB 0#32)]) (H' := [fltO 0 0])
  · (refine ⟨0, ?_⟩; simp (maxSteps := 2000000) -implicitDefEqProofs [-getElem?_pos, List.getElem?_cons_zero, List.getElem?_cons_succ, go_sem, eqV, plen, loadV, storeV, uB])
  apply Tells.assoc
  apply Tells.seq (fr' := roFr cc l 0 0#32 []) (H' := [fltO 0 0])
  · (refine ⟨0, ?_⟩; simp (maxSteps := 2000000) -implicitDefEqProofs [-getElem?_pos, List.getElem?_cons_zero, List.getElem?_cons_succ, go_sem, eqV, plen, loadV, storeV, roFr, uB])
  apply Tells.blockThen (P := fun fr H => fr = roFr cc l l.length (ofR l 0 0#32).1 [(11, .bool false)] ∧ H = [fltO 0 0] ∧ (ofR l 0 0#32).2 = (0, 0))
  · refine Tells.loop (σ := Nat × BitVec 32) (fun s => s.1 ≤ l.length ∧ ofR (l.drop s.1) s.1 s.2 = ofR l 0 0#32) (fun s => roFr cc l s.1 s.2 []) (fun _ => [fltO 0 0]) (fun s => l.length - s.1) ?_ (0, 0#32) ⟨by simp, rfl⟩
    rintro ⟨k, c⟩ ⟨hk, hf⟩
    simp only at hk hf ⊢
    by_cases he : k = l.length
    · right
      subst he
      rw [List.drop_length] at hf
      refine ⟨⟨.exit 0, roFr cc l l.length (ofR l 0 0#32).1 [(11, .bool false)], [fltO 0 0]⟩, .inl ⟨rfl, rfl, rfl, ?_⟩, by simp, ?_⟩
      · rw [← hf]; rfl
      · rw [show (ofR l 0 0#32).1 = c by rw [← hf]; rfl]
        (refine ⟨0, ?_⟩; simp (maxSteps := 2000000) -implicitDefEqProofs [-getElem?_pos, List.getElem?_cons_zero, List.getElem?_cons_succ, go_sem, eqV, plen, loadV, storeV, roFr, uB, tx])
    · have hlt : k < l.length := by omega
      have hltI : (k : Int) < (l.length : Int) := by omega
      obtain ⟨s, hs⟩ : ∃ s, l[k]? = some s := ⟨l[k], List.getElem?_eq_getElem hlt⟩
      have hd : l.drop k = s :: l.drop (k + 1) := by
        rw [List.drop_eq_getElem_cons hlt]
        rw [List.getElem?_eq_getElem hlt] at hs
        rw [Option.some.inj hs]
      rw [hd, show ofR (s :: l.drop (k + 1)) k c = if ixR (nmsA 32) s 0 < 0 then (0, 2, (k : Int)) else ofR (l.drop (k + 1)) (k + 1) (c ||| (1#32 <<< (ixR (nmsA 32) s 0).toNat)) from rfl, ← fd_ix] at hf
      have hIn := ro_in cc l k c s hs
      have w1 : IntKind.i64.wrap ((k : Int) + 1) = ((k + 1 : Nat) : Int) := by rw [wrap_i64 (by omega) (by omega)]; omega
      rcases (show fdR s 32 < 0 ∨ ∃ j : Nat, fdR s 32 = (j : Int) ∧ j < 32 by
        rw [fd_ix]
        rcases ixR_lt (nmsA 32) s 0 with h | ⟨j, h1, h2⟩
        · exact .inl h
        · exact .inr ⟨j, h1, by rw [nmsA_len] at h2; omega⟩) with hn | ⟨j, hj, hj32⟩
      · right
        rw [if_pos hn] at hf
        refine ⟨⟨.ret, [(2, uB 0#32), (3, .ptr 0 0 0 0)], [fltO 2 k]⟩, .inr ⟨rfl, rfl, by simp only [← hf]; rfl, by simp only [← hf]⟩, by simp, ?_⟩
        generalize fdR s 32 = z at *
        apply Run.seq (fr' := roFr cc l k c [(11, .bool true)]) (H' := [fltO 0 0])
        · apply Run.seq (fr' := roFr cc l k c [(11, .bool true)]) (H' := [fltO 0 0])
          · (refine ⟨0, ?_⟩; simp (maxSteps := 2000000) -implicitDefEqProofs [-getElem?_pos, List.getElem?_cons_zero, List.getElem?_cons_succ, go_sem, eqV, plen, loadV, storeV, roFr, tx, hltI, uB])
          · exact Run.cond (d := true) rfl ⟨0, rfl⟩
        refine Run.seq_out (Run.block ?_ (by simp)) (by simp)
        apply Run.seq (fr' := roFr cc l k c [(6, .int .i64 (-1))]) (H' := [fltO 0 0])
        · (refine ⟨0, ?_⟩; simp (maxSteps := 2000000) -implicitDefEqProofs [-getElem?_pos, List.getElem?_cons_zero, List.getElem?_cons_succ, go_sem, eqV, plen, loadV, storeV, roFr, uB])
        apply Run.seq (fr' := roFr cc l k c [(6, .int .i64 z), (7, .int .i64 32), (15, .bool false)]) (H' := [fltO 0 0])
        · apply Run.seq (fr' := roFr cc l k c [(6, .int .i64 (-1)), (7, .int .i64 0)]) (H' := [fltO 0 0])
          · (refine ⟨0, ?_⟩; simp (maxSteps := 2000000) -implicitDefEqProofs [-getElem?_pos, List.getElem?_cons_zero, List.getElem?_cons_succ, go_sem, eqV, plen, loadV, storeV, roFr, uB])
          · exact piece hIn _ rfl
        clear hIn
        (refine ⟨0, ?_⟩; simp (maxSteps := 2000000) -implicitDefEqProofs [-getElem?_pos, List.getElem?_cons_zero, List.getElem?_cons_succ, go_sem, eqV, plen, loadV, storeV, roFr, uB, hn, fltO, bd29k, flatCells, splice, scalars, scalar])
      · left
        rw [hj] at hf hIn
        rw [if_neg (by omega), Int.toNat_natCast] at hf
        refine ⟨(k + 1, c ||| (1#32 <<< j)), ⟨by simp only; omega, hf⟩, ?_, by simp only; omega⟩
        have hsh := shl_one hj32
        rw [Int.one_mul] at hsh
        have hj0 : ¬ (j : Int) < 0 := by omega
        have hmb : IntKind.u32.bits = 32 := rfl
        have hmb2 : IntKind.u64.bits = 64 := rfl
        have wu : IntKind.u64.wrap (j : Int) = (j : Nat) := wrap_u64 (by omega) (by omega)
        have wo := wrap_or c (1#32 <<< j)
        simp only [go_sem] at wo
        apply Run.seq (fr' := roFr cc l k c [(11, .bool true)]) (H' := [fltO 0 0])
        · apply Run.seq (fr' := roFr cc l k c [(11, .bool true)]) (H' := [fltO 0 0])
          · (refine ⟨0, ?_⟩; simp (maxSteps := 2000000) -implicitDefEqProofs [-getElem?_pos, List.getElem?_cons_zero, List.getElem?_cons_succ, go_sem, eqV, plen, loadV, storeV, roFr, tx, hltI, uB])
          · exact Run.cond (d := true) rfl ⟨0, rfl⟩
        apply Run.seq (fr' := roFr cc l k (c ||| (1#32 <<< j)) []) (H' := [fltO 0 0])
        · refine Run.block ?_ (by simp)
          apply Run.seq (fr' := roFr cc l k c [(6, .int .i64 (-1))]) (H' := [fltO 0 0])
          · (refine ⟨0, ?_⟩; simp (maxSteps := 2000000) -implicitDefEqProofs [-getElem?_pos, List.getElem?_cons_zero, List.getElem?_cons_succ, go_sem, eqV, plen, loadV, storeV, roFr, uB])
          apply Run.seq (fr' := roFr cc l k c [(6, .int .i64 (j : Nat)), (7, .int .i64 32), (15, .bool false)]) (H' := [fltO 0 0])
          · apply Run.seq (fr' := roFr cc l k c [(6, .int .i64 (-1)), (7, .int .i64 0)]) (H' := [fltO 0 0])
            · (refine ⟨0, ?_⟩; simp (maxSteps := 2000000) -implicitDefEqProofs [-getElem?_pos, List.getElem?_cons_zero, List.getElem?_cons_succ, go_sem, eqV, plen, loadV, storeV, roFr, uB])
            · exact piece hIn _ rfl
          clear hIn
          (refine ⟨0, ?_⟩; simp (maxSteps := 2000000) -implicitDefEqProofs [-getElem?_pos, List.getElem?_cons_zero, List.getElem?_cons_succ, go_sem, eqV, plen, loadV, storeV, roFr, uB, hj0, hmb, hmb2, wu, hsh, wo, -BitVec.toNat_or, -BitVec.toNat_shiftLeft])
        · (refine ⟨0, ?_⟩; simp (maxSteps := 2000000) -implicitDefEqProofs [-getElem?_pos, List.getElem?_cons_zero, List.getElem?_cons_succ, go_sem, eqV, plen, loadV, storeV, roFr, w1])
  · rintro fr H ⟨rfl, rfl, h2⟩
    refine Tells.of (o := ⟨.ret, [(2, uB (ofR l 0 0#32).1), (3, .ptr 0 0 0 0)], [fltO 0 0]⟩) ?_ ⟨rfl, rfl, by rw [h2]⟩
    refine ⟨0, ?_⟩
    simp (maxSteps := 2000000) -implicitDefEqProofs [-getElem?_pos, List.getElem?_cons_zero, List.getElem?_cons_succ, go_sem, eqV, plen, loadV, storeV, roFr, uB, fltO, bd29n, flatCells, splice, scalars, scalar]

end

theorem rof_ev {H : AM.Heap} {a : AV} {l : List (List UInt8)} (h : payOf H a = some (tx l)) (hl : l.length < 9223372036854775808) :
    Ev1 X 16 [a] H (.tup [uB (ofR l 0 0#32).1, fltV (ofR l 0 0#32).2.1 (ofR l 0 0#32).2.2], H) := by
  obtain ⟨cc, x, hx⟩ := args_pay (C := X) (f := 16) (i := 0) rfl h (args_nil 1)
  obtain ⟨code, hb, ⟨ex, fr, H1⟩, ⟨he, hfr, hH⟩, hr⟩ := rof_code cc l hl
  simp only at he hfr hH
  subst he; subst hfr; subst hH
  generalize ofR l 0 0#32 = r at *
  refine Ev1.plain (l := [uB r.1, fltV r.2.1 r.2.2]) (evT_below X) Tryd.func16 hb hx (by simp [idsL, ids, ids_tx]) (by simp [gtag]) hr (.inr rfl) ?_ rfl rfl
  rfl

end Go.Proofs.YtfkbemllgeopfaaDoor

/- Walks: the law CapsCalls. -/
namespace Go.Proofs.YtfkbemllgeopfaaDoor
open Go.AM
set_option linter.unusedSimpArgs false
set_option linter.unusedVariables false

theorem eq29' (x y z w : Int) : eqFlat X 6 29 [.int .i64 x, .int .i64 y] [.int .i64 z, .int .i64 w] = some (x == z && (y == w && true)) := by kernel_rfl
theorem mk29' (x y : Int) : mkAgg X 29 [.int .i64 x, .int .i64 y] = some (.pc [.int .i64 x, .int .i64 y]) := by kernel_rfl
theorem st29' : isStructT X 29 = true := by kernel_rfl
theorem gd29' : X.P.eqGuardType X.P.depth 29 = false := by kernel_rfl
theorem txF_pay' {H : AM.Heap} {o : Nat} {l : List (List UInt8)} (h : H[o]? = some (txF l)) : payOf H (.sl o 0 l.length 0) = some (tx l) := by
  simp [payOf, live, h, txF, psub, tx, List.take_of_length_le]

set_option maxRecDepth 100000 in
set_option maxHeartbeats 8000000 in
theorem calls_code (a b : BitVec 32) (cc : Nat) (l : List (List UInt8)) (s : BitVec 16) : ∃ code, Tryd.f6.body = some code ∧ ∃ H,
    Run X (evT X) 6 0 code [(0, uB a), (1, uB b), (2, .ro cc (tx l) 3), (3, uC s)] [] ⟨.ret, [(8, .bool true)], H⟩ := by
  refine ⟨_, rfl, ?_⟩
  have hL := evT_eq (lives_ev [])
  by_cases h100 : 100 < l.length
  · have hI : (100 : Int) < (l.length : Int) := by omega
    refine ⟨[], 0, ?_⟩
    simp (maxSteps := 2000000) -implicitDefEqProofs [-getElem?_pos, List.getElem?_cons_zero, List.getElem?_cons_succ, go_sem, eqV, plen, loadV, storeV, uB, uC, hL, tx, h100, hI]
  have hI : ¬ (100 : Int) < (l.length : Int) := by omega
  have hO1 := fun H => evT_eq (of_ev (H := H) (a := .ro cc (tx l) 3) rfl (by omega))
  have hO2 := fun H => evT_eq (rof_ev (H := H) (a := .ro cc (tx l) 3) rfl (by omega))
  obtain ⟨⟨w, e, k⟩, hr⟩ : ∃ x, ofR l 0 0#32 = x := ⟨_, rfl⟩
  rw [hr] at hO1 hO2
  simp only at hO1 hO2
  have hof := fun H => evT_eq (offered_ev H)
  have hro := fun H => evT_eq (roffered_ev H)
  have hne := fun H => evT_eq (needed_ev H)
  have hrn := fun H => evT_eq (rneeded_ev H)
  have hbo := fun H => evT_eq (both_ev a b H)
  have hrb := fun H => evT_eq (rboth_ev a b H)
  have hck := fun H => evT_eq (check_ev a H)
  have hrc := fun H => evT_eq (rcheck_ev a H)
  have hnm := fun H => evT_eq (nms_ev a H)
  have hrm := fun H => evT_eq (rnms_ev a H)
  have hst := fun H => evT_eq (st_ev s H)
  have hrs := fun H => evT_eq (rst_ev s H)
  have hl1 := nmsB_len a 32
  have hl2 := stB_len s 16
  have hs1 := fun H o o2 (h : H[o]? = some (txF (nmsB a 32))) (h2 : H[o2]? = some (txF (nmsB a 32))) => evT_eq (same_ev (txF_pay' h) (txF_pay' h2) (by omega))
  have hs2 := fun H o o2 (h : H[o]? = some (txF (stB s 16))) (h2 : H[o2]? = some (txF (stB s 16))) => evT_eq (same_ev (txF_pay' h) (txF_pay' h2) (by omega))
  generalize nmsB a 32 = l1 at *
  generalize stB s 16 = l2 at *
  have hs1' := hs1 [fltO e k, fltO e k, txF l1, txF l1] 2 3 rfl rfl
  have hs2' := hs2 [fltO e k, fltO e k, txF l1, txF l1, txF l2, txF l2] 4 5 rfl rfl
  clear hs1 hs2
  have q1 : (l1 == l1) = true := by simp
  have q2 : (l2 == l2) = true := by simp
  rw [q1] at hs1'
  rw [q2] at hs2'
  generalize bothB a b = bb at *
  generalize ckB a = ck at *
  generalize txF l1 = o1 at *
  generalize txF l2 = o2 at *
  clear hr hl1 hl2
  refine ⟨[fltO e k, fltO e k, o1, o1, o2, o2], ?_⟩
  simp only [fltO, fltV, uB, uC] at hO1 hO2 hnm hrm hst hrs hbo hrb hck hrc hs1' hs2' ⊢
  generalize (a.toNat : Int) = a at *
  generalize (b.toNat : Int) = b at *
  generalize (s.toNat : Int) = s at *
  generalize (w.toNat : Int) = w at *
  generalize (bb.toNat : Int) = bb at *
  apply Run.seq (fr' := [(0, .int .u32 a), (1, .int .u32 b), (2, .ro cc (tx l) 3), (3, .int .u16 s)]) (H' := [])
  · (refine ⟨0, ?_⟩; simp (maxSteps := 2000000) -implicitDefEqProofs [-getElem?_pos, List.getElem?_cons_zero, List.getElem?_cons_succ, go_sem, eqV, plen, loadV, storeV])
  apply Run.seq (fr' := [(0, .int .u32 a), (1, .int .u32 b), (2, .ro cc (tx l) 3), (3, .int .u16 s), (14, .bool false)]) (H' := [])
  · apply Run.seq (fr' := [(0, .int .u32 a), (1, .int .u32 b), (2, .ro cc (tx l) 3), (3, .int .u16 s), (14, .bool false)]) (H' := [])
    · (refine ⟨0, ?_⟩; simp (maxSteps := 2000000) -implicitDefEqProofs [-getElem?_pos, List.getElem?_cons_zero, List.getElem?_cons_succ, go_sem, eqV, plen, loadV, storeV, hL])
    · exact Run.cond (d := false) rfl ⟨0, rfl⟩
  apply Run.seq (fr' := [(0, .int .u32 a), (1, .int .u32 b), (2, .ro cc (tx l) 3), (3, .int .u16 s), (17, .bool false)]) (H' := [])
  · apply Run.seq (fr' := [(0, .int .u32 a), (1, .int .u32 b), (2, .ro cc (tx l) 3), (3, .int .u16 s), (17, .bool false)]) (H' := [])
    · (refine ⟨0, ?_⟩; simp (maxSteps := 2000000) -implicitDefEqProofs [-getElem?_pos, List.getElem?_cons_zero, List.getElem?_cons_succ, go_sem, eqV, plen, loadV, storeV, tx, hI, h100])
    · exact Run.cond (d := false) rfl ⟨0, rfl⟩
  apply Run.seq (fr' := [(0, .int .u32 a), (1, .int .u32 b), (2, .ro cc (tx l) 3), (3, .int .u16 s), (9, .int .u32 w), (10, .ptr 0 0 0 0)]) (H' := [some ⟨.pc [.int .i64 e, .int .i64 k], 0, some 2, 1, false, true, 0⟩])
  · (refine ⟨0, ?_⟩; simp (maxSteps := 2000000) -implicitDefEqProofs [-getElem?_pos, List.getElem?_cons_zero, List.getElem?_cons_succ, go_sem, eqV, plen, loadV, storeV, hO1, flatCells, splice, scalars, scalar])
  apply Run.seq (fr' := [(0, .int .u32 a), (1, .int .u32 b), (3, .int .u16 s), (9, .int .u32 w), (10, .ptr 0 0 0 0), (11, .int .u32 w), (12, .ptr 1 0 0 0)]) (H' := [some ⟨.pc [.int .i64 e, .int .i64 k], 0, some 2, 1, false, true, 0⟩, some ⟨.pc [.int .i64 e, .int .i64 k], 0, some 2, 1, false, true, 0⟩])
  · (refine ⟨0, ?_⟩; simp (maxSteps := 2000000) -implicitDefEqProofs [-getElem?_pos, List.getElem?_cons_zero, List.getElem?_cons_succ, go_sem, eqV, plen, loadV, storeV, hO2, flatCells, splice, scalars, scalar])
  have hee : (e == e) = true := by simp
  have hkk : (k == k) = true := by simp
  refine ⟨0, ?_⟩
  simp (maxSteps := 2000000) -implicitDefEqProofs [-getElem?_pos, List.getElem?_cons_zero, List.getElem?_cons_succ, go_sem, eqV, plen, loadV, storeV, hof, hro, hne, hrn, hbo, hrb, hck, hrc, hnm, hrm, hs1', hst, hrs, hs2', mk29', eq29', st29', gd29', hee, hkk]

/-- the law, with its arguments as they come -/
theorem calls_law (k0 k1 c : Nat) (xs : List AV) (k3 : Nat) (h0 : k0 < 4294967296) (h1 : k1 < 4294967296) (h3 : k3 < 65536) (ha : ∀ a ∈ xs, ∃ s : List UInt8, a = .str s) : ∃ code, Tryd.f6.body = some code ∧
    Tells (Rets fun fr H => getF fr 8 = .bool true) X (evT X) 6 0 code [(0, .int .u32 (k0 : Nat)), (1, .int .u32 (k1 : Nat)), (2, .ro c (.pc xs) 3), (3, .int .u16 (k3 : Nat))] [] := by
  obtain ⟨l, rfl⟩ : ∃ l : List (List UInt8), xs = l.map .str := by
    clear h0 h1 h3
    induction xs with
    | nil => exact ⟨[], rfl⟩
    | cons a r ih =>
      obtain ⟨s, rfl⟩ := ha a (List.mem_cons_self ..)
      obtain ⟨l, rfl⟩ := ih fun x hx => ha x (List.mem_cons_of_mem _ hx)
      exact ⟨s :: l, rfl⟩
  obtain ⟨code, hc, H, hr⟩ := calls_code (BitVec.ofNat 32 k0) (BitVec.ofNat 32 k1) c l (BitVec.ofNat 16 k3)
  simp only [uB, uC, BitVec.toNat_ofNat, Nat.reducePow, Nat.mod_eq_of_lt h0, Nat.mod_eq_of_lt h1, Nat.mod_eq_of_lt h3] at hr
  exact ⟨code, hc, _, ⟨rfl, rfl⟩, hr⟩

end Go.Proofs.YtfkbemllgeopfaaDoor
