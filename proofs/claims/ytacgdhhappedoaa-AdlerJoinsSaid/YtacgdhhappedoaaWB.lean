/- Walks: Joined; in plain numbers. -/
import Derived.Test.YtacgdhhappedoaaW9
namespace Go.Proofs.Ytacgdhhappedoaa
open Go.AM

theorem nt9 : ntOf X 9 = 64 := by kernel_rfl
theorem keep9_1 : X.keep 9 1 = some [0, 1, 2, 26] := by kernel_rfl

def joiE (a : Int) : Int := w64 (IntKind.u32.wrap (IntKind.u32.wrap (loS a + 65521) - 1))
def joiL (a b : Int) : Int := (w64 (joiE a + w64 (loS b))).tmod 65521
def joiH (a b n : Int) : Int := (w64 (w64 (w64 (hiS a) + w64 (hiS b)) + w64 (w64 (n.tmod 65521) * (joiE a).tmod 65521))).tmod 65521

set_option maxRecDepth 100000 in
theorem joined_code (a b n : Int) (hn : 0 ≤ n) (ha : fineS a = true) (hb : fineS b = true) : ∃ code, Try.f9.body = some code ∧ Run X T8 9 0 code [(0, .int .u32 a), (1, .int .u32 b), (2, .int .i64 n)] []
    ⟨.ret, [(6, .int .u32 (join64 (joiL a b) (joiH a b n))), (7, .int .i64 0)], []⟩ := by
  refine ⟨_, rfl, ?_⟩
  have n1 : ¬ n < 0 := by omega
  have hA : ∀ H, T8 12 [.int .u32 a] H = some (.bool true, H) := fun H => by simp [T8, ha]
  have hB : ∀ H, T8 12 [.int .u32 b] H = some (.bool true, H) := fun H => by simp [T8, hb]
  refine Run.seq (fr' := [(0, .int .u32 a), (1, .int .u32 b), (2, .int .i64 n)]) (H' := []) ⟨0, rfl⟩ ?_
  refine Run.seq (fr' := [(0, .int .u32 a), (1, .int .u32 b), (2, .int .i64 n), (26, .bool false)]) (H' := []) (Run.seq (fr' := [(0, .int .u32 a), (1, .int .u32 b), (2, .int .i64 n), (26, .bool false)]) (H' := []) ⟨0, ?_⟩ (Run.cond (d := false) rfl ⟨0, rfl⟩)) ?_
  · simp [exec, runOps, dstOk, nt9, wantedV, AM.step, callV, evalT, evalO, evalArgs, ofVal, ofCell, getF, putF, bod12, par12, hA, hB, binV, unV, arith, afterRegion, keep9_1, normX, keepF, n1]
  · refine Run.seq (fr' := [(1, .int .u32 b), (2, .int .i64 n), (8, .int .u32 (loS a)), (9, .int .u32 (hiS a))]) (H' := []) ⟨0, rfl⟩ ?_
    refine Run.seq (fr' := [(2, .int .i64 n), (8, .int .u32 (loS a)), (9, .int .u32 (hiS a)), (10, .int .u32 (loS b)), (11, .int .u32 (hiS b))]) (H' := []) ⟨0, rfl⟩ ?_
    refine Run.seq (fr' := [(2, .int .i64 n), (9, .int .u32 (hiS a)), (10, .int .u32 (loS b)), (11, .int .u32 (hiS b)), (12, .int .u64 (joiE a))]) (H' := []) ⟨0, rfl⟩ ?_
    refine Run.seq (fr' := [(2, .int .i64 n), (9, .int .u32 (hiS a)), (11, .int .u32 (hiS b)), (12, .int .u64 (joiE a)), (13, .int .u64 (joiL a b))]) (H' := []) ⟨0, rfl⟩ ?_
    refine Run.seq (fr' := [(13, .int .u64 (joiL a b)), (14, .int .u64 (joiH a b n))]) (H' := []) ⟨0, rfl⟩ ?_
    exact Run.seq (fr' := [(6, .int .u32 (join64 (joiL a b) (joiH a b n))), (7, .int .i64 0)]) (H' := []) ⟨0, rfl⟩ ⟨0, rfl⟩

theorem joined_ev (a b n : Int) (hn : 0 ≤ n) (ha : fineS a = true) (hb : fineS b = true) : Ev1 X 9 [.int .u32 a, .int .u32 b, .int .i64 n] [] (.tup [.int .u32 (join64 (joiL a b) (joiH a b n)), .int .i64 0], []) := by
  obtain ⟨code, h, hr⟩ := joined_code a b n hn ha hb
  exact Ev1.of T8_below Try.func9 h rfl rfl hr (.inr rfl) rfl rfl

theorem joiE_nat {a : Int} {lo : Nat} (hs : loS a = lo) (h : lo < 65521) : joiE a = ((lo + 65520 : Nat) : Int) := by
  unfold joiE
  rw [hs, wrap_u32 (n := (lo : Int) + 65521) (by omega) (by omega), wrap_u32 (n := (lo : Int) + 65521 - 1) (by omega) (by omega), w64_nat (n := (lo : Int) + 65521 - 1) (by omega) (by omega)]
  omega

theorem joiL_nat {a b : Int} {lo lo2 : Nat} (hs : loS a = lo) (hs2 : loS b = lo2) (h : lo < 65521) (h2 : lo2 < 65521) : joiL a b = (((lo + 65520 + lo2) % 65521 : Nat) : Int) := by
  unfold joiL
  rw [joiE_nat hs h, hs2, w64_nat (n := (lo2 : Int)) (by omega) (by omega), w64_nat (n := ((lo + 65520 : Nat) : Int) + lo2) (by omega) (by omega), Int.tmod_eq_emod_of_nonneg (by omega)]
  omega

theorem joiH_nat {a b : Int} {lo hi hi2 n : Nat} (hs : loS a = lo) (hh : hiS a = hi) (hh2 : hiS b = hi2) (h : lo < 65521) (h1 : hi < 65521) (h2 : hi2 < 65521) (hn : n < 65521) :
    joiH a b n = (((hi + hi2 + n * ((lo + 65520) % 65521)) % 65521 : Nat) : Int) := by
  unfold joiH
  have e : (n : Int).tmod 65521 = n := by rw [Int.tmod_eq_emod_of_nonneg (by omega)]; omega
  have e2 : (joiE a).tmod 65521 = (((lo + 65520) % 65521 : Nat) : Int) := by
    rw [joiE_nat hs h, Int.tmod_eq_emod_of_nonneg (by omega)]
    omega
  have q : (lo + 65520) % 65521 < 65521 := Nat.mod_lt _ (by omega)
  rw [e, e2, hh, hh2]
  generalize (lo + 65520) % 65521 = x at q ⊢
  have hb : n * x ≤ 65521 * 65521 := Nat.mul_le_mul (by omega) (by omega)
  have e3 : (n : Int) * (x : Int) = ((n * x : Nat) : Int) := by simp
  rw [w64_nat (n := (hi : Int)) (by omega) (by omega), w64_nat (n := (hi2 : Int)) (by omega) (by omega), w64_nat (n := (hi : Int) + hi2) (by omega) (by omega), w64_nat (n := (n : Int)) (by omega) (by omega), e3,
    w64_nat (n := ((n * x : Nat) : Int)) (by omega) (by omega), w64_nat (n := (hi : Int) + hi2 + ((n * x : Nat) : Int)) (by omega) (by omega), Int.tmod_eq_emod_of_nonneg (by omega)]
  omega

theorem joined_sum (a b : List UInt8) (hn : b.length < 65521) : join64 (joiL (sumF a) (sumF b)) (joiH (sumF a) (sumF b) (b.length : Nat)) = sumF (a ++ b) := by
  have l1 := low_lt a
  have l2 := low_lt b
  have h1 := high_lt a
  have h2 := high_lt b
  rw [joiL_nat (sum_lo a) (sum_lo b) l1 l2, joiH_nat (sum_lo a) (sum_hi a) (sum_hi b) l1 h1 h2 hn, join64_nat (by omega) (by omega), sumF_eq]
  have e1 : (low a + 65520 + low b) % 65521 = low (a ++ b) := by
    simp only [low, total_append]
    omega
  have e2 : (low a + 65520) % 65521 = total a % 65521 := by
    simp only [low]
    omega
  have e3 : (high a + high b + b.length * (total a % 65521)) % 65521 = high (a ++ b) := by
    simp only [high, wsum_append, List.length_append]
    have d := Nat.mod_add_div (total a) 65521
    have : b.length * total a = b.length * (total a % 65521) + 65521 * (b.length * (total a / 65521)) := by
      conv => lhs; rw [← d]
      rw [Nat.mul_add, Nat.mul_left_comm]
    rw [this]
    generalize b.length * (total a % 65521) = p
    generalize b.length * (total a / 65521) = q
    omega
  rw [e1, e2, e3]

/-- on from a sum -/
theorem more_sum (a b : List UInt8) : moreS (sumF a) b = sumF (a ++ b) := by
  have l1 := low_lt a
  have h1 := high_lt a
  unfold moreS
  have e1 : (loS (sumF a)).tmod 65521 = ((low a : Nat) : Int) := by rw [sum_lo, Int.tmod_eq_emod_of_nonneg (by omega)]; omega
  have e2 : (hiS (sumF a)).tmod 65521 = ((high a : Nat) : Int) := by rw [sum_hi, Int.tmod_eq_emod_of_nonneg (by omega)]; omega
  rw [e1, e2, moreN_nat b l1 h1, moreF_fst b l1 h1, moreF_snd b l1 h1, joinS_nat (by omega) (by omega), sumF_eq]
  have e3 : (low a + total b) % 65521 = low (a ++ b) := by
    simp only [low, total_append]
    omega
  have e4 : (high a + b.length * low a + wsum b) % 65521 = high (a ++ b) := by
    simp only [high, low, wsum_append, List.length_append]
    have d := Nat.mod_add_div (1 + total a) 65521
    have : b.length + b.length * total a = b.length * ((1 + total a) % 65521) + 65521 * (b.length * ((1 + total a) / 65521)) := by
      have h : b.length * (1 + total a) = b.length + b.length * total a := by rw [Nat.mul_add, Nat.mul_one]
      rw [← h]
      conv => lhs; rw [← d]
      rw [Nat.mul_add, Nat.mul_left_comm]
    generalize b.length * ((1 + total a) % 65521) = p at this ⊢
    generalize b.length * ((1 + total a) / 65521) = q at this
    generalize b.length * total a = z at this ⊢
    omega
  rw [e3, e4]

end Go.Proofs.Ytacgdhhappedoaa
