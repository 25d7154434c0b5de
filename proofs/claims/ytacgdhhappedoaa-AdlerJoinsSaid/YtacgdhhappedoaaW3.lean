/- Sums in plain numbers; sums of a slice that lies in the heap. -/
import Derived.Test.YtacgdhhappedoaaW2
namespace Go.Proofs.Ytacgdhhappedoaa
open Go.AM

def moreF : Nat → Nat → List UInt8 → Nat × Nat
  | lo, hi, [] => (lo, hi)
  | lo, hi, b :: r => if (lo + b.toNat) % 65521 < 65521 ∧ (hi + (lo + b.toNat) % 65521) % 65521 < 65521 then moreF ((lo + b.toNat) % 65521) ((hi + (lo + b.toNat) % 65521) % 65521) r else (0, 0)

theorem lo1_nat {lo : Nat} (h : lo < 65521) (b : UInt8) : lo1 lo b = ((lo + b.toNat) % 65521 : Nat) := by
  have hb : b.toNat < 256 := b.toNat_lt
  unfold lo1
  rw [wrap_u32 (n := (b.toNat : Int)) (by omega) (by omega), wrap_u32 (by omega) (by omega)]
  rw [Int.tmod_eq_emod_of_nonneg (by omega)]
  omega

theorem hi1_nat {lo hi : Nat} (h : lo < 65521) (h' : hi < 65521) (b : UInt8) : hi1 lo hi b = ((hi + (lo + b.toNat) % 65521) % 65521 : Nat) := by
  have hb : b.toNat < 256 := b.toNat_lt
  unfold hi1
  rw [lo1_nat h]
  rw [wrap_u32 (by omega) (by omega), Int.tmod_eq_emod_of_nonneg (by omega)]
  omega

theorem moreN_nat : ∀ (l : List UInt8) {lo hi : Nat}, lo < 65521 → hi < 65521 → moreN lo hi l = (((moreF lo hi l).1 : Int), ((moreF lo hi l).2 : Int))
  | [], lo, hi, _, _ => rfl
  | b :: r, lo, hi, h, h' => by
    have q1 : (lo + b.toNat) % 65521 < 65521 := Nat.mod_lt _ (by omega)
    have q2 : (hi + (lo + b.toNat) % 65521) % 65521 < 65521 := Nat.mod_lt _ (by omega)
    simp only [moreN, moreF, lo1_nat h, hi1_nat h h', if_pos (And.intro q1 q2)]
    exact moreN_nat r q1 q2

/-- the sum of bytes -/
def sumF (l : List UInt8) : Int := joinS (moreF 1 0 l).1 (moreF 1 0 l).2

theorem moreS_one (l : List UInt8) : moreS 1 l = sumF l := by
  have e1 : (loS 1).tmod 65521 = ((1 : Nat) : Int) := by decide
  have e2 : (hiS 1).tmod 65521 = ((0 : Nat) : Int) := by decide
  unfold moreS sumF
  rw [e1, e2, moreN_nat l (by omega) (by omega)]

theorem sum_ev_sl {H : AM.Heap} {o off len g : Nat} {ob : AM.Obj} {l : List UInt8} (ho : live H o g = some ob) (hi : ob.ids = false) (hp : psub ob.p off len = some (.pb l)) (hl : l.length < 9223372036854775807) :
    Ev1 X 8 [.sl o off len g] H (.int .u32 (sumF l), H) := by
  obtain ⟨code, hb, hr⟩ := sum_code (if ob.z = 0 ∧ plen ob.p = 0 then 0 else 2) 1 l hl
  have hlend : lendArgs X 8 H 0 [.sl o off len g] = some ([.ro (if ob.z = 0 ∧ plen ob.p = 0 then 0 else 2) (.pb l) 1], [⟨[o], [ob.tg]⟩]) := by
    have hrw : X.rw 8 0 = false := rfl
    simp [lendArgs, lendV, lend1, ho, hi, hp, hrw]
  rw [← moreS_one]
  refine Ev1.of T2_below Try.func8 hb hlend rfl hr (.inr rfl) rfl ?_
  simp [wrap, resultV, getF, tags, reach_nil, idsL, ids, tagsObjs, ren, strike, putBack, List.flatMap]

def T3 : Cf := fun f args H => match f, args with
  | 8, [.ro _ (.pb l) _] => if l.length < 9223372036854775807 then some (.int .u32 (sumF l), H) else .none
  | 8, [.sl o off len g] => match live H o g with
    | some ob => if ob.ids then .none else match psub ob.p off len with
      | some (.pb l) => if l.length < 9223372036854775807 then some (.int .u32 (sumF l), H) else .none
      | _ => .none
    | .none => .none
  | _, _ => .none

theorem T3_below : Below X T3 := by
  intro f args H r h
  unfold T3 at h
  split at h
  · split at h
    · rename_i c l t hl
      rw [← Option.some.inj h, ← moreS_one]
      have := Ev1.frame (sum_ev c t l hl) rfl H
      simpa [shiftV, shiftH, ren] using this
    · cases h
  · split at h
    · rename_i ob ho
      split at h
      · cases h
      · rename_i hi
        split at h
        · rename_i l hp
          split at h
          · rename_i hl
            rw [← Option.some.inj h]
            exact sum_ev_sl ho (by simpa using hi) hp hl
          · cases h
        · cases h
    · cases h
  · cases h

end Go.Proofs.Ytacgdhhappedoaa
