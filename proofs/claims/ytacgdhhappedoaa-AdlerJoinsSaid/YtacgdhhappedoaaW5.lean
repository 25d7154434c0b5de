/- What sums are, in plain numbers. -/
import Derived.Test.YtacgdhhappedoaaW3
namespace Go.Proofs.Ytacgdhhappedoaa
open Go.AM

theorem bits_u32 {n : Nat} (h : n < 4294967296) : (AM.bits .u32 (n : Int)).toNat = n := by
  show (BitVec.ofInt 32 (n : Int)).toNat = n
  rw [BitVec.toNat_ofInt]
  omega

theorem joinS_nat {lo hi : Nat} (h : lo < 65536) (h' : hi < 65536) : joinS lo hi = ((hi * 65536 + lo : Nat) : Int) := by
  unfold joinS
  have e : ((hi : Int) * 2 ^ (min 16 32)) = ((hi * 65536 : Nat) : Int) := by
    have : (2 : Int) ^ (min 16 32) = 65536 := by decide
    rw [this]; simp
  have e2 : IntKind.u32.wrap ((hi * 65536 : Nat) : Int) = ((hi * 65536 : Nat) : Int) := wrap_u32 (by omega) (by omega)
  rw [e, e2, BitVec.toNat_or, bits_u32 (by omega), bits_u32 (by omega)]
  have hor : hi * 65536 ||| lo = hi * 65536 + lo := by
    have := Nat.two_pow_add_eq_or_of_lt (i := 16) (b := lo) (by omega) hi
    rw [show 2 ^ 16 * hi = hi * 65536 by omega] at this
    exact this.symm
  rw [hor, wrap_u32 (by omega) (by omega)]

theorem moreF_lt : ∀ (l : List UInt8) {lo hi : Nat}, lo < 65521 → hi < 65521 → (moreF lo hi l).1 < 65521 ∧ (moreF lo hi l).2 < 65521
  | [], lo, hi, h, h' => ⟨h, h'⟩
  | b :: r, lo, hi, _, _ => by
    have q1 : (lo + b.toNat) % 65521 < 65521 := Nat.mod_lt _ (by omega)
    have q2 : (hi + (lo + b.toNat) % 65521) % 65521 < 65521 := Nat.mod_lt _ (by omega)
    simp only [moreF, if_pos (And.intro q1 q2)]
    exact moreF_lt r q1 q2

def total : List UInt8 → Nat
  | [] => 0
  | b :: r => b.toNat + total r

theorem moreF_fst : ∀ (l : List UInt8) {lo hi : Nat}, lo < 65521 → hi < 65521 → (moreF lo hi l).1 = (lo + total l) % 65521
  | [], lo, hi, h, _ => by simp [moreF, total, Nat.mod_eq_of_lt h]
  | b :: r, lo, hi, _, _ => by
    have q1 : (lo + b.toNat) % 65521 < 65521 := Nat.mod_lt _ (by omega)
    have q2 : (hi + (lo + b.toNat) % 65521) % 65521 < 65521 := Nat.mod_lt _ (by omega)
    simp only [moreF, if_pos (And.intro q1 q2), moreF_fst r q1 q2, total]
    omega

theorem total_set : ∀ (l : List UInt8) (i : Nat) (v b : UInt8), l[i]? = some b → total (l.set i v) + b.toNat = total l + v.toNat
  | [], i, v, b, h => by simp at h
  | a :: r, 0, v, b, h => by
    simp only [List.getElem?_cons_zero, Option.some.injEq] at h
    subst h
    simp [total]; omega
  | a :: r, i + 1, v, b, h => by
    have := total_set r i v b (by simpa using h)
    simp only [List.set_cons_succ, total]
    omega

theorem sumF_nat (l : List UInt8) : sumF l = (((moreF 1 0 l).2 * 65536 + (moreF 1 0 l).1 : Nat) : Int) := by
  obtain ⟨h1, h2⟩ := moreF_lt l (lo := 1) (hi := 0) (by omega) (by omega)
  exact joinS_nat (by omega) (by omega)

theorem sumF_set {l : List UInt8} {i : Nat} {v b : UInt8} (h : l[i]? = some b) (hv : v ≠ b) : sumF (l.set i v) ≠ sumF l := by
  rw [sumF_nat, sumF_nat]
  have t := total_set l i v b h
  have f1 := moreF_fst (l.set i v) (lo := 1) (hi := 0) (by omega) (by omega)
  have f2 := moreF_fst l (lo := 1) (hi := 0) (by omega) (by omega)
  obtain ⟨h1, _⟩ := moreF_lt l (lo := 1) (hi := 0) (by omega) (by omega)
  obtain ⟨h3, _⟩ := moreF_lt (l.set i v) (lo := 1) (hi := 0) (by omega) (by omega)
  have hne : v.toNat ≠ b.toNat := fun e => hv (UInt8.toNat_inj.1 e)
  have hvl := v.toNat_lt
  have hbl := b.toNat_lt
  intro e
  have e' : (moreF 1 0 (l.set i v)).2 * 65536 + (moreF 1 0 (l.set i v)).1 = (moreF 1 0 l).2 * 65536 + (moreF 1 0 l).1 := by exact_mod_cast e
  have : (moreF 1 0 (l.set i v)).1 = (moreF 1 0 l).1 := by omega
  rw [f1, f2] at this
  omega

end Go.Proofs.Ytacgdhhappedoaa
