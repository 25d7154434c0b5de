/- Walks: the document's check of a value; it is the same. -/
import Derived.Test.YtbmddnokokoofaaV4
namespace Go.Proofs.Ytbmddnokokoofaa
open Go.AM
set_option linter.unusedSimpArgs false
set_option linter.unusedVariables false

/-- is a value wrong, that has just what its kind has? -/
def rbk (v : Va) (n tt : Nat) : Bool :=
  if v.k = 1 then !(okI v.i n) else if v.k = 2 ∨ v.k = 3 ∨ v.k = 4 then !(okB v.b n) else if v.k = 5 ∨ v.k = 6 then !(fin v.w tt) else if v.k = 7 then decide (16777216 < v.t.length) else false
def bad0 (v : Va) (k : Int) : Bool := decide (k < 0) || ((v.k != 0) && (v.k != k))
def rchkV (v : Va) (t : Ty) : Int := if bad0 v (kindN t.t t.u) || c81 v then 2 else if rbk v (rsizeN t.t) t.t then 2 else 0

theorem rsz (t : Nat) : rsizeN t = 1 ∨ rsizeN t = 2 ∨ rsizeN t = 4 ∨ rsizeN t = 8 := by
  unfold rsizeN; repeat' split
  all_goals omega

noncomputable def rckO : Option Code := (((((((Try.f27.body).bind cR).bind cR).bind cR).bind cR).bind cR).bind cR).bind cL
def r8Fr (n : Nat) : AM.Frame := [(2, .ptr 0 0 0 0), (3, .ptr 1 0 0 0), (6, .bool false), (7, .int .u64 (n : Nat)), (82, .bool false)]
def rckP (v : Va) (t : Ty) (n : Nat) (fr : AM.Frame) (H : AM.Heap) : Prop := H = [some (vaO v), some (tyO t)] ∧ getF fr 6 = .bool (rbk v n t.t) ∧ ∃ f, fr = [(6, .bool f)] ∨ fr = [(2, .ptr 0 0 0 0), (6, .bool f), (127, .bool false)]

set_option maxRecDepth 100000 in
set_option maxHeartbeats 4000000 in
theorem rck1 (v : Va) (t : Ty) (n : Nat) (hn : n = 1 ∨ n = 2 ∨ n = 4 ∨ n = 8) (k1 : v.k = 1) : ∃ code, rckO = some code ∧
    Tells (Goes (rckP v t n)) X (evT X) 27 0 code (r8Fr (8 * n)) [some (vaO v), some (tyO t)] := by
  refine ⟨_, rfl, ?_⟩
  unfold rckP rbk
  rw [if_pos k1]
  unfold okI
  rcases hn with rfl | rfl | rfl | rfl
  · by_cases a : v.i < -128
    · refine Tells.of (o := ⟨.normal, [(6, .bool true)], [some (vaO v), some (tyO t)]⟩) ⟨0, ?_⟩ ⟨rfl, rfl, by simp [getF]; omega, _, .inl rfl⟩
      simp (maxSteps := 2000000) -implicitDefEqProofs [-getElem?_pos, List.getElem?_cons_zero, List.getElem?_cons_succ, go_sem, eqV, plen, loadV, storeV, vaO, tyO, Va.pay, r8Fr, k1, a, show IntKind.u64.bits = 64 from rfl, show IntKind.i64.bits = 64 from rfl, show IntKind.u64.wrap 7 = 7 from rfl, show IntKind.i64.wrap (-128) = -128 from rfl, show IntKind.i64.wrap 128 = 128 from rfl]
    by_cases b : 128 ≤ v.i
    · refine Tells.of (o := ⟨.normal, [(6, .bool true)], [some (vaO v), some (tyO t)]⟩) ⟨0, ?_⟩ ⟨rfl, rfl, by simp [getF]; omega, _, .inl rfl⟩
      simp (maxSteps := 2000000) -implicitDefEqProofs [-getElem?_pos, List.getElem?_cons_zero, List.getElem?_cons_succ, go_sem, eqV, plen, loadV, storeV, vaO, tyO, Va.pay, r8Fr, k1, a, b, show IntKind.u64.bits = 64 from rfl, show IntKind.i64.bits = 64 from rfl, show IntKind.u64.wrap 7 = 7 from rfl, show IntKind.i64.wrap (-128) = -128 from rfl, show IntKind.i64.wrap 128 = 128 from rfl]
    refine Tells.of (o := ⟨.normal, [(6, .bool false)], [some (vaO v), some (tyO t)]⟩) ⟨0, ?_⟩ ⟨rfl, rfl, by simp [getF]; omega, _, .inl rfl⟩
    simp (maxSteps := 2000000) -implicitDefEqProofs [-getElem?_pos, List.getElem?_cons_zero, List.getElem?_cons_succ, go_sem, eqV, plen, loadV, storeV, vaO, tyO, Va.pay, r8Fr, k1, a, b, show IntKind.u64.bits = 64 from rfl, show IntKind.i64.bits = 64 from rfl, show IntKind.u64.wrap 7 = 7 from rfl, show IntKind.i64.wrap (-128) = -128 from rfl, show IntKind.i64.wrap 128 = 128 from rfl]
  · by_cases a : v.i < -32768
    · refine Tells.of (o := ⟨.normal, [(6, .bool true)], [some (vaO v), some (tyO t)]⟩) ⟨0, ?_⟩ ⟨rfl, rfl, by simp [getF]; omega, _, .inl rfl⟩
      simp (maxSteps := 2000000) -implicitDefEqProofs [-getElem?_pos, List.getElem?_cons_zero, List.getElem?_cons_succ, go_sem, eqV, plen, loadV, storeV, vaO, tyO, Va.pay, r8Fr, k1, a, show IntKind.u64.bits = 64 from rfl, show IntKind.i64.bits = 64 from rfl, show IntKind.u64.wrap 15 = 15 from rfl, show IntKind.i64.wrap (-32768) = -32768 from rfl, show IntKind.i64.wrap 32768 = 32768 from rfl]
    by_cases b : 32768 ≤ v.i
    · refine Tells.of (o := ⟨.normal, [(6, .bool true)], [some (vaO v), some (tyO t)]⟩) ⟨0, ?_⟩ ⟨rfl, rfl, by simp [getF]; omega, _, .inl rfl⟩
      simp (maxSteps := 2000000) -implicitDefEqProofs [-getElem?_pos, List.getElem?_cons_zero, List.getElem?_cons_succ, go_sem, eqV, plen, loadV, storeV, vaO, tyO, Va.pay, r8Fr, k1, a, b, show IntKind.u64.bits = 64 from rfl, show IntKind.i64.bits = 64 from rfl, show IntKind.u64.wrap 15 = 15 from rfl, show IntKind.i64.wrap (-32768) = -32768 from rfl, show IntKind.i64.wrap 32768 = 32768 from rfl]
    refine Tells.of (o := ⟨.normal, [(6, .bool false)], [some (vaO v), some (tyO t)]⟩) ⟨0, ?_⟩ ⟨rfl, rfl, by simp [getF]; omega, _, .inl rfl⟩
    simp (maxSteps := 2000000) -implicitDefEqProofs [-getElem?_pos, List.getElem?_cons_zero, List.getElem?_cons_succ, go_sem, eqV, plen, loadV, storeV, vaO, tyO, Va.pay, r8Fr, k1, a, b, show IntKind.u64.bits = 64 from rfl, show IntKind.i64.bits = 64 from rfl, show IntKind.u64.wrap 15 = 15 from rfl, show IntKind.i64.wrap (-32768) = -32768 from rfl, show IntKind.i64.wrap 32768 = 32768 from rfl]
  · by_cases a : v.i < -2147483648
    · refine Tells.of (o := ⟨.normal, [(6, .bool true)], [some (vaO v), some (tyO t)]⟩) ⟨0, ?_⟩ ⟨rfl, rfl, by simp [getF]; omega, _, .inl rfl⟩
      simp (maxSteps := 2000000) -implicitDefEqProofs [-getElem?_pos, List.getElem?_cons_zero, List.getElem?_cons_succ, go_sem, eqV, plen, loadV, storeV, vaO, tyO, Va.pay, r8Fr, k1, a, show IntKind.u64.bits = 64 from rfl, show IntKind.i64.bits = 64 from rfl, show IntKind.u64.wrap 31 = 31 from rfl, show IntKind.i64.wrap (-2147483648) = -2147483648 from rfl, show IntKind.i64.wrap 2147483648 = 2147483648 from rfl]
    by_cases b : 2147483648 ≤ v.i
    · refine Tells.of (o := ⟨.normal, [(6, .bool true)], [some (vaO v), some (tyO t)]⟩) ⟨0, ?_⟩ ⟨rfl, rfl, by simp [getF]; omega, _, .inl rfl⟩
      simp (maxSteps := 2000000) -implicitDefEqProofs [-getElem?_pos, List.getElem?_cons_zero, List.getElem?_cons_succ, go_sem, eqV, plen, loadV, storeV, vaO, tyO, Va.pay, r8Fr, k1, a, b, show IntKind.u64.bits = 64 from rfl, show IntKind.i64.bits = 64 from rfl, show IntKind.u64.wrap 31 = 31 from rfl, show IntKind.i64.wrap (-2147483648) = -2147483648 from rfl, show IntKind.i64.wrap 2147483648 = 2147483648 from rfl]
    refine Tells.of (o := ⟨.normal, [(6, .bool false)], [some (vaO v), some (tyO t)]⟩) ⟨0, ?_⟩ ⟨rfl, rfl, by simp [getF]; omega, _, .inl rfl⟩
    simp (maxSteps := 2000000) -implicitDefEqProofs [-getElem?_pos, List.getElem?_cons_zero, List.getElem?_cons_succ, go_sem, eqV, plen, loadV, storeV, vaO, tyO, Va.pay, r8Fr, k1, a, b, show IntKind.u64.bits = 64 from rfl, show IntKind.i64.bits = 64 from rfl, show IntKind.u64.wrap 31 = 31 from rfl, show IntKind.i64.wrap (-2147483648) = -2147483648 from rfl, show IntKind.i64.wrap 2147483648 = 2147483648 from rfl]
  · refine Tells.of (o := ⟨.normal, [(6, .bool false)], [some (vaO v), some (tyO t)]⟩) ⟨0, ?_⟩ ⟨rfl, rfl, by simp [getF], _, .inl rfl⟩
    simp (maxSteps := 2000000) -implicitDefEqProofs [-getElem?_pos, List.getElem?_cons_zero, List.getElem?_cons_succ, go_sem, eqV, plen, loadV, storeV, vaO, tyO, Va.pay, r8Fr, k1]

set_option maxRecDepth 100000 in
set_option maxHeartbeats 4000000 in
theorem rckB (v : Va) (t : Ty) (n : Nat) (kk : Int) (hkk : kk = 2 ∨ kk = 3 ∨ kk = 4) (hn : n = 1 ∨ n = 2 ∨ n = 4 ∨ n = 8) (kv : v.k = kk) : ∃ code, rckO = some code ∧
    Tells (Goes (rckP v t n)) X (evT X) 27 0 code (r8Fr (8 * n)) [some (vaO v), some (tyO t)] := by
  refine ⟨_, rfl, ?_⟩
  unfold rckP rbk
  rw [if_neg (by omega), if_pos (by omega)]
  unfold okB
  have hd : ∀ B : Nat, Int.fdiv (v.b : Int) (B : Int) = ((v.b / B : Nat) : Int) := fun B => by
    rw [Int.fdiv_eq_ediv_of_nonneg _ (Int.natCast_nonneg _)]; exact (Int.natCast_ediv _ _).symm
  rcases hn with rfl | rfl | rfl | rfl
  · have hd := hd 256
    have e1 : (!(decide (8 ≤ 1) || decide (v.b < 2 ^ (8 * 1)))) = (((v.b / 256 : Nat) : Int) != 0) := by rw [Bool.eq_iff_iff]; simp; omega
    generalize (((v.b / 256 : Nat) : Int)) = q at *
    generalize hq : (q != 0) = qb at *
    refine Tells.of (o := ⟨.normal, [(6, .bool qb)], [some (vaO v), some (tyO t)]⟩) ⟨0, ?_⟩ ⟨rfl, rfl, by rw [e1]; rfl, _, .inl rfl⟩
    simp only [Int.cast_ofNat_Int] at hd
    rcases hkk with rfl | rfl | rfl
    · simp (maxSteps := 2000000) -implicitDefEqProofs [-getElem?_pos, List.getElem?_cons_zero, List.getElem?_cons_succ, go_sem, eqV, plen, loadV, storeV, vaO, tyO, Va.pay, r8Fr, kv, hd, hq, show IntKind.u64.bits = 64 from rfl]
    · simp (maxSteps := 2000000) -implicitDefEqProofs [-getElem?_pos, List.getElem?_cons_zero, List.getElem?_cons_succ, go_sem, eqV, plen, loadV, storeV, vaO, tyO, Va.pay, r8Fr, kv, hd, hq, show IntKind.u64.bits = 64 from rfl]
    · simp (maxSteps := 2000000) -implicitDefEqProofs [-getElem?_pos, List.getElem?_cons_zero, List.getElem?_cons_succ, go_sem, eqV, plen, loadV, storeV, vaO, tyO, Va.pay, r8Fr, kv, hd, hq, show IntKind.u64.bits = 64 from rfl]
  · have hd := hd 65536
    have e1 : (!(decide (8 ≤ 2) || decide (v.b < 2 ^ (8 * 2)))) = (((v.b / 65536 : Nat) : Int) != 0) := by rw [Bool.eq_iff_iff]; simp; omega
    generalize (((v.b / 65536 : Nat) : Int)) = q at *
    generalize hq : (q != 0) = qb at *
    refine Tells.of (o := ⟨.normal, [(6, .bool qb)], [some (vaO v), some (tyO t)]⟩) ⟨0, ?_⟩ ⟨rfl, rfl, by rw [e1]; rfl, _, .inl rfl⟩
    simp only [Int.cast_ofNat_Int] at hd
    rcases hkk with rfl | rfl | rfl
    · simp (maxSteps := 2000000) -implicitDefEqProofs [-getElem?_pos, List.getElem?_cons_zero, List.getElem?_cons_succ, go_sem, eqV, plen, loadV, storeV, vaO, tyO, Va.pay, r8Fr, kv, hd, hq, show IntKind.u64.bits = 64 from rfl]
    · simp (maxSteps := 2000000) -implicitDefEqProofs [-getElem?_pos, List.getElem?_cons_zero, List.getElem?_cons_succ, go_sem, eqV, plen, loadV, storeV, vaO, tyO, Va.pay, r8Fr, kv, hd, hq, show IntKind.u64.bits = 64 from rfl]
    · simp (maxSteps := 2000000) -implicitDefEqProofs [-getElem?_pos, List.getElem?_cons_zero, List.getElem?_cons_succ, go_sem, eqV, plen, loadV, storeV, vaO, tyO, Va.pay, r8Fr, kv, hd, hq, show IntKind.u64.bits = 64 from rfl]
  · have hd := hd 4294967296
    have e1 : (!(decide (8 ≤ 4) || decide (v.b < 2 ^ (8 * 4)))) = (((v.b / 4294967296 : Nat) : Int) != 0) := by rw [Bool.eq_iff_iff]; simp; omega
    generalize (((v.b / 4294967296 : Nat) : Int)) = q at *
    generalize hq : (q != 0) = qb at *
    refine Tells.of (o := ⟨.normal, [(6, .bool qb)], [some (vaO v), some (tyO t)]⟩) ⟨0, ?_⟩ ⟨rfl, rfl, by rw [e1]; rfl, _, .inl rfl⟩
    simp only [Int.cast_ofNat_Int] at hd
    rcases hkk with rfl | rfl | rfl
    · simp (maxSteps := 2000000) -implicitDefEqProofs [-getElem?_pos, List.getElem?_cons_zero, List.getElem?_cons_succ, go_sem, eqV, plen, loadV, storeV, vaO, tyO, Va.pay, r8Fr, kv, hd, hq, show IntKind.u64.bits = 64 from rfl]
    · simp (maxSteps := 2000000) -implicitDefEqProofs [-getElem?_pos, List.getElem?_cons_zero, List.getElem?_cons_succ, go_sem, eqV, plen, loadV, storeV, vaO, tyO, Va.pay, r8Fr, kv, hd, hq, show IntKind.u64.bits = 64 from rfl]
    · simp (maxSteps := 2000000) -implicitDefEqProofs [-getElem?_pos, List.getElem?_cons_zero, List.getElem?_cons_succ, go_sem, eqV, plen, loadV, storeV, vaO, tyO, Va.pay, r8Fr, kv, hd, hq, show IntKind.u64.bits = 64 from rfl]
  · refine Tells.of (o := ⟨.normal, [(6, .bool false)], [some (vaO v), some (tyO t)]⟩) ⟨0, ?_⟩ ⟨rfl, rfl, by simp [getF], _, .inl rfl⟩
    rcases hkk with rfl | rfl | rfl
    · simp (maxSteps := 2000000) -implicitDefEqProofs [-getElem?_pos, List.getElem?_cons_zero, List.getElem?_cons_succ, go_sem, eqV, plen, loadV, storeV, vaO, tyO, Va.pay, r8Fr, kv]
    · simp (maxSteps := 2000000) -implicitDefEqProofs [-getElem?_pos, List.getElem?_cons_zero, List.getElem?_cons_succ, go_sem, eqV, plen, loadV, storeV, vaO, tyO, Va.pay, r8Fr, kv]
    · simp (maxSteps := 2000000) -implicitDefEqProofs [-getElem?_pos, List.getElem?_cons_zero, List.getElem?_cons_succ, go_sem, eqV, plen, loadV, storeV, vaO, tyO, Va.pay, r8Fr, kv]

set_option maxRecDepth 100000 in
set_option maxHeartbeats 4000000 in
theorem rckR (v : Va) (t : Ty) (n : Nat) (hF : evT X 48 [.agg v.w.pay, .int .u8 (t.t : Nat)] [some (vaO v), some (tyO t)] = some (.bool (fin v.w t.t), [some (vaO v), some (tyO t)])) (h : v.k = 0 ∨ v.k = 5 ∨ v.k = 6 ∨ v.k = 7) : ∃ code, rckO = some code ∧
    Tells (Goes (rckP v t n)) X (evT X) 27 0 code (r8Fr (8 * n)) [some (vaO v), some (tyO t)] := by
  refine ⟨_, rfl, ?_⟩
  unfold rckP rbk
  rw [if_neg (by omega), if_neg (by omega)]
  generalize 8 * n = n8 at *
  rcases h with kv | kv | kv | kv
  · rw [if_neg (by omega), if_neg (by omega)]
    refine Tells.of (o := ⟨.normal, [(2, .ptr 0 0 0 0), (6, .bool false), (127, .bool false)], [some (vaO v), some (tyO t)]⟩) ⟨0, ?_⟩ ⟨rfl, rfl, rfl, _, .inr rfl⟩
    simp (maxSteps := 2000000) -implicitDefEqProofs [-getElem?_pos, List.getElem?_cons_zero, List.getElem?_cons_succ, go_sem, eqV, plen, loadV, storeV, vaO, tyO, Va.pay, r8Fr, kv]
  · rw [if_pos (by omega)]
    simp only [vaO, tyO, Va.pay, Ty.pay, Wh.pay] at hF
    rw [kv] at hF
    generalize fin v.w t.t = fb at *
    refine Tells.of (o := ⟨.normal, [(6, .bool (!fb))], [some (vaO v), some (tyO t)]⟩) ⟨0, ?_⟩ ⟨rfl, rfl, rfl, _, .inl rfl⟩
    simp (maxSteps := 2000000) -implicitDefEqProofs [-getElem?_pos, List.getElem?_cons_zero, List.getElem?_cons_succ, go_sem, eqV, plen, loadV, storeV, vaO, tyO, Va.pay, Ty.pay, r8Fr, kv, mkWh, hF, unV]
  · rw [if_pos (by omega)]
    simp only [vaO, tyO, Va.pay, Ty.pay, Wh.pay] at hF
    rw [kv] at hF
    generalize fin v.w t.t = fb at *
    refine Tells.of (o := ⟨.normal, [(6, .bool (!fb))], [some (vaO v), some (tyO t)]⟩) ⟨0, ?_⟩ ⟨rfl, rfl, rfl, _, .inl rfl⟩
    simp (maxSteps := 2000000) -implicitDefEqProofs [-getElem?_pos, List.getElem?_cons_zero, List.getElem?_cons_succ, go_sem, eqV, plen, loadV, storeV, vaO, tyO, Va.pay, Ty.pay, r8Fr, kv, mkWh, hF, unV]
  · rw [if_neg (by omega), if_pos kv]
    have hl : decide ((16777216 : Int) < (v.t.length : Int)) = decide (16777216 < v.t.length) := by rw [decide_eq_decide]; omega
    generalize decide (16777216 < v.t.length) = lb at *
    refine Tells.of (o := ⟨.normal, [(6, .bool lb)], [some (vaO v), some (tyO t)]⟩) ⟨0, ?_⟩ ⟨rfl, rfl, rfl, _, .inl rfl⟩
    simp (maxSteps := 2000000) -implicitDefEqProofs [-getElem?_pos, List.getElem?_cons_zero, List.getElem?_cons_succ, go_sem, eqV, plen, loadV, storeV, vaO, tyO, Va.pay, r8Fr, kv, hl]

end Go.Proofs.Ytbmddnokokoofaa
