/- Walks: the check of a value. -/
import Derived.Test.YtbmddnokokoofaaV2
namespace Go.Proofs.Ytbmddnokokoofaa
open Go.AM
set_option linter.unusedSimpArgs false
set_option linter.unusedVariables false

theorem vaEqF (k i b : Int) (t : List UInt8) (a : Bool) (y mo d h mi s us : Int) (k' i' b' : Int) (t' : List UInt8) (a' : Bool) (y' mo' d' h' mi' s' us' : Int) :
    eqFlat X 6 32 [.int .i64 k, .int .i64 i, .int .u64 b, .str t, .bool a, .int .i64 y, .int .i64 mo, .int .i64 d, .int .i64 h, .int .i64 mi, .int .i64 s, .int .i64 us] [.int .i64 k', .int .i64 i', .int .u64 b', .str t', .bool a', .int .i64 y', .int .i64 mo', .int .i64 d', .int .i64 h', .int .i64 mi', .int .i64 s', .int .i64 us'] =
      some (k == k' && (i == i' && (b == b' && (t == t' && ((a == a' && (y == y' && (mo == mo' && (d == d' && (h == h' && (mi == mi' && (s == s' && (us == us' && true)))))))) && true))))) := by kernel_rfl
theorem stVa : isStructT X 32 = true := by kernel_rfl
theorem guVa : X.P.eqGuardType X.P.depth 32 = false := by kernel_rfl
theorem eqVa (v v' : Va) (H : AM.Heap) (xo yo : Operand) : eqV X H 32 (.agg v.pay) (.agg v'.pay) xo yo = some (decide (v = v')) := by
  show (if isStructT X 32 && !X.P.eqGuardType X.P.depth 32 then eqFlat X 6 32 _ _ else none) = _
  rw [stVa, guVa]
  have := vaEqF v.k v.i v.b v.t v.w.neg v.w.y v.w.mo v.w.d v.w.h v.w.mi v.w.s v.w.us v'.k v'.i v'.b v'.t v'.w.neg v'.w.y v'.w.mo v'.w.d v'.w.h v'.w.mi v'.w.s v'.w.us
  refine Eq.trans (b := some _) this ?_
  congr 1
  rw [Bool.eq_iff_iff, decide_eq_true_eq]
  simp only [Bool.and_eq_true, beq_iff_eq, and_true]
  obtain ⟨k, i, b, t, w⟩ := v
  obtain ⟨k', i', b', t', w'⟩ := v'
  cases w; cases w'
  simp only [Va.mk.injEq, Wh.mk.injEq]
  constructor
  · rintro ⟨h1, h2, h3, h4, h5⟩; exact ⟨h1, h2, Int.ofNat.inj h3, h4, h5⟩
  · rintro ⟨h1, h2, h3, h4, h5⟩; exact ⟨h1, h2, by rw [h3], h4, h5⟩

theorem bdV0 : buildV X 32 [] = some (.agg ({} : Va).pay) := by kernel_rfl
theorem bdVi (k i : Int) : buildV X 32 [(0, .int .i64 k), (1, .int .i64 i)] = some (.agg ({ k := k, i := i } : Va).pay) := by kernel_rfl
theorem bdVb (k : Int) (b : Nat) : buildV X 32 [(0, .int .i64 k), (2, .int .u64 (b : Nat))] = some (.agg ({ k := k, b := b } : Va).pay) := by kernel_rfl
theorem bdVt (k : Int) (t : List UInt8) : buildV X 32 [(0, .int .i64 k), (3, .str t)] = some (.agg ({ k := k, t := t } : Va).pay) := by kernel_rfl
theorem bdVw (k : Int) (w : Wh) : buildV X 32 [(0, .int .i64 k), (4, .agg w.pay)] = some (.agg ({ k := k, w := w } : Va).pay) := by kernel_rfl

/-- fits a number in n bytes? -/
def okI (i : Int) (n : Nat) : Bool := decide (8 ≤ n) || decide (-(2 ^ (8 * n - 1)) ≤ i ∧ i < 2 ^ (8 * n - 1))
def okB (b n : Nat) : Bool := decide (8 ≤ n) || decide (b < 2 ^ (8 * n))
/-- is a value, other than nothing, one of its type? -/
def okVk (v : Va) (k : Int) (n tt : Nat) : Bool :=
  if v.k = 1 then decide (k = 1) && (decide (v = { k := 1, i := v.i }) && okI v.i n)
  else if v.k = 2 ∨ v.k = 3 ∨ v.k = 4 then decide (k = v.k) && (decide (v = { k := v.k, b := v.b }) && okB v.b n)
  else if v.k = 5 ∨ v.k = 6 then decide (k = v.k) && (decide (v = { k := v.k, w := v.w }) && fin v.w tt)
  else if v.k = 7 then decide (k = 7) && (decide (v = { k := 7, t := v.t }) && decide (v.t.length ≤ 16777216))
  else false
def okVa (v : Va) (t : Ty) : Bool := okVk v (kindN t.t t.u) (sizeN t.t) t.t
/-- a value's check -/
def chkV (v : Va) (t : Ty) : Int := if kindN t.t t.u < 0 then 2 else if v = {} then 0 else if okVa v t then 0 else 2

theorem kind_bd : ∀ t u, -1 ≤ kindN t u ∧ kindN t u ≤ 7 := by
  intro t u
  unfold kindN
  repeat' split
  all_goals omega

theorem size_num {t : Nat} {u : Bool} (h : kindN t u = 1 ∨ kindN t u = 2 ∨ kindN t u = 3 ∨ kindN t u = 4) : sizeN t = 1 ∨ sizeN t = 2 ∨ sizeN t = 4 ∨ sizeN t = 8 := by
  unfold kindN at h
  unfold sizeN
  by_cases h0 : kn t = false
  · rw [if_pos h0] at h; omega
  rw [if_neg h0] at h
  by_cases h1 : t = 1 ∨ t = 2 ∨ t = 13 ∨ t = 3 ∨ t = 9 ∨ t = 8
  · rcases h1 with h1 | h1 | h1 | h1 | h1 | h1 <;> subst h1 <;> simp
  rw [if_neg h1] at h
  by_cases h2 : t = 4
  · subst h2; simp
  rw [if_neg h2] at h
  by_cases h3 : t = 5
  · subst h3; simp
  rw [if_neg h3] at h
  by_cases h4 : t = 7 ∨ t = 10 ∨ t = 12
  · rw [if_pos h4] at h; omega
  rw [if_neg h4] at h
  by_cases h5 : t = 11
  · rw [if_pos h5] at h; omega
  rw [if_neg h5] at h
  by_cases h6 : t = 6
  · rw [if_pos h6] at h; omega
  rw [if_neg h6] at h
  omega

theorem fdiv_q {i : Int} {m : Nat} (q : Int) (hq : i.fdiv (2 ^ m) = q) : ((q == 0) || (q == -1)) = decide (-(2 ^ m) ≤ i ∧ i < 2 ^ m) := by
  have hp : (0 : Int) < 2 ^ m := Int.pow_pos (by decide)
  rw [Int.fdiv_eq_ediv_of_nonneg _ (Int.le_of_lt hp)] at hq
  have h1 := Int.mul_ediv_add_emod i (2 ^ m)
  have h2 := Int.emod_nonneg i (b := 2 ^ m) (by omega)
  have h3 := Int.emod_lt_of_pos i hp
  rw [hq] at h1
  generalize i % 2 ^ m = r at *
  generalize (2 : Int) ^ m = B at *
  rw [Bool.eq_iff_iff]
  simp only [Bool.or_eq_true, beq_iff_eq, decide_eq_true_eq]
  constructor
  · rintro (h | h) <;> subst h <;> constructor <;> omega
  · rintro ⟨h4, h5⟩
    apply Classical.byContradiction
    intro hc
    rcases Int.lt_or_gt_of_ne (show q ≠ 0 by omega) with h6 | h6
    · have : B * q ≤ B * (-2) := Int.mul_le_mul_of_nonneg_left (by omega) (by omega)
      omega
    · have : B * 1 ≤ B * q := Int.mul_le_mul_of_nonneg_left (by omega) (by omega)
      omega

def ckFr (k : Int) (f : Bool) (n : Nat) : AM.Frame := [(2, .ptr 0 0 0 0), (3, .ptr 1 0 0 0), (5, .int .i64 k), (6, .bool f), (7, .int .i64 (n : Nat))]

/-- the check's choice -/
noncomputable def ckO : Option Code := (((((((Try.f19.body).bind cR).bind cR).bind cR).bind cR).bind cR).bind cR).bind cL

/-- how the choice leaves the frame and the heap -/
def ckP (v : Va) (t : Ty) (k : Int) (n : Nat) (fr : AM.Frame) (H : AM.Heap) : Prop := H = [some (vaO v), some (tyO t)] ∧ (fr = [(6, .bool (okVk v k n t.t))] ∨ fr = [(2, .ptr 0 0 0 0), (5, .int .i64 k), (6, .bool (okVk v k n t.t)), (103, .bool false)])

end Go.Proofs.Ytbmddnokokoofaa
