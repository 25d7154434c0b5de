/- Sums in closed form; halves. -/
import Derived.Test.YtacgdhhappedoaaW5
namespace Go.Proofs.Ytacgdhhappedoaa
open Go.AM

def wsum : List UInt8 → Nat
  | [] => 0
  | b :: r => (r.length + 1) * b.toNat + wsum r

theorem total_append : ∀ (a b : List UInt8), total (a ++ b) = total a + total b
  | [], b => by simp [total]
  | x :: r, b => by simp only [List.cons_append, total, total_append r b]; omega

theorem wsum_append : ∀ (a b : List UInt8), wsum (a ++ b) = wsum a + b.length * total a + wsum b
  | [], b => by simp [wsum, total]
  | x :: r, b => by
    simp only [List.cons_append, wsum, wsum_append r b, total, List.length_append, Nat.mul_add, Nat.add_mul, Nat.one_mul]
    omega

theorem moreF_snd : ∀ (l : List UInt8) {lo hi : Nat}, lo < 65521 → hi < 65521 → (moreF lo hi l).2 = (hi + l.length * lo + wsum l) % 65521
  | [], lo, hi, _, h => by simp [moreF, wsum, Nat.mod_eq_of_lt h]
  | b :: r, lo, hi, _, _ => by
    have q1 : (lo + b.toNat) % 65521 < 65521 := Nat.mod_lt _ (by omega)
    have q2 : (hi + (lo + b.toNat) % 65521) % 65521 < 65521 := Nat.mod_lt _ (by omega)
    simp only [moreF, if_pos (And.intro q1 q2), moreF_snd r q1 q2, wsum, List.length_cons]
    have d1 := Nat.mod_add_div (lo + b.toNat) 65521
    have d2 := Nat.mod_add_div (hi + (lo + b.toNat) % 65521) 65521
    generalize (lo + b.toNat) % 65521 = lo' at d1 d2 ⊢
    generalize (hi + lo') % 65521 = hi' at d2 ⊢
    generalize (lo + b.toNat) / 65521 = x at d1
    generalize (hi + lo') / 65521 = y at d2
    generalize r.length = k
    have e : hi + (k + 1) * lo + ((k + 1) * b.toNat + wsum r) = hi' + k * lo' + wsum r + 65521 * (y + (k + 1) * x) := by
      have : (k + 1) * lo + (k + 1) * b.toNat = (k + 1) * lo' + 65521 * ((k + 1) * x) := by
        rw [← Nat.mul_add, ← d1, Nat.mul_add, Nat.mul_left_comm]
      have h2 : (k + 1) * lo' = k * lo' + lo' := by rw [Nat.add_mul, Nat.one_mul]
      omega
    rw [e, Nat.add_mul_mod_self_left]

def low (l : List UInt8) : Nat := (1 + total l) % 65521
def high (l : List UInt8) : Nat := (l.length + wsum l) % 65521

theorem sumF_eq (l : List UInt8) : sumF l = ((high l * 65536 + low l : Nat) : Int) := by
  rw [sumF_nat, moreF_fst l (by omega) (by omega), moreF_snd l (by omega) (by omega)]
  simp [low, high]

theorem low_lt (l : List UInt8) : low l < 65521 := Nat.mod_lt _ (by omega)
theorem high_lt (l : List UInt8) : high l < 65521 := Nat.mod_lt _ (by omega)

theorem loS_nat {lo hi : Nat} (h : lo < 65536) (h' : hi < 65536) : loS ((hi * 65536 + lo : Nat) : Int) = lo := by
  unfold loS
  rw [BitVec.toNat_and, bits_u32 (by omega), show AM.bits .u32 65535 = AM.bits .u32 ((65535 : Nat) : Int) from rfl, bits_u32 (by omega)]
  have : (hi * 65536 + lo) &&& 65535 = lo := by
    have := Nat.and_two_pow_sub_one_eq_mod (hi * 65536 + lo) 16
    simp only [Nat.reducePow, Nat.reduceSub] at this
    rw [this]
    omega
  rw [this, wrap_u32 (by omega) (by omega)]

theorem hiS_nat {lo hi : Nat} (h : lo < 65536) : hiS ((hi * 65536 + lo : Nat) : Int) = hi := by
  unfold hiS
  have e : (2 : Int) ^ (min 16 32) = 65536 := by decide
  rw [e, Int.fdiv_eq_ediv_of_nonneg _ (by omega)]
  omega

end Go.Proofs.Ytacgdhhappedoaa
