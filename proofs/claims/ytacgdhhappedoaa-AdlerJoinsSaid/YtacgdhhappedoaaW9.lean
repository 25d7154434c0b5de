/- Rolled, in plain numbers: a window moved by a byte. -/
import Derived.Test.YtacgdhhappedoaaW8
namespace Go.Proofs.Ytacgdhhappedoaa
open Go.AM

theorem rolL_nat {s : Int} {lo o i : Nat} (hs : loS s = lo) (h : lo < 65521) (ho : o < 256) (hi : i < 256) : rolL s o i = (((lo + 65521 - o + i) % 65521 : Nat) : Int) := by
  unfold rolL
  rw [hs, w64_nat (n := (lo : Int)) (by omega) (by omega), w64_nat (n := (lo : Int) + 65521) (by omega) (by omega), w64_nat (n := (o : Int)) (by omega) (by omega), w64_nat (n := (lo : Int) + 65521 - o) (by omega) (by omega),
    w64_nat (n := (i : Int)) (by omega) (by omega), w64_nat (n := (lo : Int) + 65521 - o + i) (by omega) (by omega), Int.tmod_eq_emod_of_nonneg (by omega)]
  omega

theorem rolG_nat {o n : Nat} (ho : o < 256) (hn : n < 65521) : rolG o n = (((n * o + 1) % 65521 : Nat) : Int) := by
  unfold rolG
  have e : (n : Int).tmod 65521 = n := by rw [Int.tmod_eq_emod_of_nonneg (by omega)]; omega
  have hb : n * o ≤ 65521 * 256 := Nat.mul_le_mul (by omega) (by omega)
  have e2 : (n : Int) * (o : Int) = ((n * o : Nat) : Int) := by simp
  rw [e, w64_nat (n := (n : Int)) (by omega) (by omega), w64_nat (n := (o : Int)) (by omega) (by omega), e2, w64_nat (n := ((n * o : Nat) : Int)) (by omega) (by omega), w64_nat (n := ((n * o : Nat) : Int) + 1) (by omega) (by omega),
    Int.tmod_eq_emod_of_nonneg (by omega)]
  omega

theorem rolH_nat {s : Int} {lo hi o i n : Nat} (hs : loS s = lo) (hs2 : hiS s = hi) (h : lo < 65521) (h2 : hi < 65521) (ho : o < 256) (hi' : i < 256) (hn : n < 65521) :
    rolH s o i n = (((hi + 65521 - (n * o + 1) % 65521 + (lo + 65521 - o + i) % 65521) % 65521 : Nat) : Int) := by
  unfold rolH
  rw [hs2, rolG_nat ho hn, rolL_nat hs h ho hi']
  have q1 : (n * o + 1) % 65521 < 65521 := Nat.mod_lt _ (by omega)
  have q2 : (lo + 65521 - o + i) % 65521 < 65521 := Nat.mod_lt _ (by omega)
  generalize (n * o + 1) % 65521 = g at q1 ⊢
  generalize (lo + 65521 - o + i) % 65521 = l at q2 ⊢
  rw [w64_nat (n := (hi : Int)) (by omega) (by omega), w64_nat (n := (hi : Int) + 65521) (by omega) (by omega), w64_nat (n := (hi : Int) + 65521 - g) (by omega) (by omega), w64_nat (n := (hi : Int) + 65521 - g + l) (by omega) (by omega),
    Int.tmod_eq_emod_of_nonneg (by omega)]
  omega

theorem sum_lo (l : List UInt8) : loS (sumF l) = low l := by
  have := low_lt l; have := high_lt l
  rw [sumF_eq]; exact loS_nat (by omega) (by omega)
theorem sum_hi (l : List UInt8) : hiS (sumF l) = high l := by
  have := low_lt l
  rw [sumF_eq]; exact hiS_nat (by omega)

theorem fine_sum (l : List UInt8) : fineS (sumF l) = true := by
  have := low_lt l; have := high_lt l
  simp [fineS, sum_lo, sum_hi]
  omega

theorem rolled_sum (o i : UInt8) (r : List UInt8) (hn : r.length + 1 < 65521) :
    join64 (rolL (sumF (o :: r)) o.toNat i.toNat) (rolH (sumF (o :: r)) o.toNat i.toNat ((r.length + 1 : Nat) : Int)) = sumF (r ++ [i]) := by
  have ho := o.toNat_lt
  have hi := i.toNat_lt
  have l1 := low_lt (o :: r)
  have l2 := high_lt (o :: r)
  rw [rolL_nat (sum_lo _) l1 (by omega) (by omega), rolH_nat (sum_lo _) (sum_hi _) l1 l2 (by omega) (by omega) hn, join64_nat (by omega) (by omega), sumF_eq]
  have e1 : (low (o :: r) + 65521 - o.toNat + i.toNat) % 65521 = low (r ++ [i]) := by
    simp only [low, total_append, total]
    omega
  have e2 : (high (o :: r) + 65521 - ((r.length + 1) * o.toNat + 1) % 65521 + low (r ++ [i])) % 65521 = high (r ++ [i]) := by
    simp only [high, low, wsum_append, total_append, total, wsum, List.length_append, List.length_cons, List.length_nil, Nat.zero_add, Nat.one_mul]
    generalize (r.length + 1) * o.toNat = p
    omega
  rw [e1, e2]

end Go.Proofs.Ytacgdhhappedoaa
