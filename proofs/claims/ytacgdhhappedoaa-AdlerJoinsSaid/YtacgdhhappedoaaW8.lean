/- Walks: fine, Rolled. -/
import Derived.Test.YtacgdhhappedoaaW6
import Derived.Test.YtacgdhhappedoaaW7
namespace Go.Proofs.Ytacgdhhappedoaa
open Go.AM

theorem nt12 : ntOf X 12 = 16 := by kernel_rfl
theorem nt11 : ntOf X 11 = 58 := by kernel_rfl
theorem keep12_2 : X.keep 12 2 = some [2] := by kernel_rfl
theorem keep11_1 : X.keep 11 1 = some [0, 1, 2, 3, 21] := by kernel_rfl
theorem bod12 : bodied X 12 = true := by kernel_rfl
theorem par12 : paramsOf X 12 = [24] := by kernel_rfl

def fineS (s : Int) : Bool := decide (loS s < 65521) && decide (hiS s < 65521)

set_option maxRecDepth 100000 in
theorem fine_code : ∃ code, Try.f12.body = some code ∧ ∀ s : Int, Run X T1 12 0 code [(0, .int .u32 s)] [] ⟨.ret, [(2, .bool (fineS s))], []⟩ := by
  refine ⟨_, rfl, fun s => ?_⟩
  refine Run.seq (fr' := [(0, .int .u32 s)]) (H' := []) ⟨0, rfl⟩ ?_
  refine Run.seq (fr' := [(3, .int .u32 (loS s)), (4, .int .u32 (hiS s))]) (H' := []) ⟨0, rfl⟩ ?_
  refine Run.seq (fr' := [(2, .bool (fineS s))]) (H' := []) ⟨0, ?_⟩ ⟨0, rfl⟩
  unfold fineS
  by_cases h : loS s < 65521 <;> simp [exec, runOps, dstOk, nt12, wantedV, AM.step, evalT, evalO, ofVal, ofCell, getF, putF, binV, arith, assignV, afterRegion, keep12_2, normX, keepF, h]

theorem fine_ev (s : Int) : Ev1 X 12 [.int .u32 s] [] (.bool (fineS s), []) := by
  obtain ⟨code, hb, hr⟩ := fine_code
  exact Ev1.of T1_below Try.func12 hb rfl rfl (hr s) (.inr rfl) rfl rfl

def T8 : Cf := fun f args H => match f, args with
  | 13, [.int .u32 s] => some (.tup [.int .u32 (loS s), .int .u32 (hiS s)], H)
  | 12, [.int .u32 s] => some (.bool (fineS s), H)
  | _, _ => .none

theorem T8_below : Below X T8 := by
  intro f args H r h
  unfold T8 at h
  split at h
  · rename_i s
    rw [← Option.some.inj h]
    have := Ev1.frame (enter_ev Below.none (run13 s)) rfl H
    simpa [shiftV, shiftH, ren, renL] using this
  · rename_i s
    rw [← Option.some.inj h]
    have := Ev1.frame (fine_ev s) rfl H
    simpa [shiftV, shiftH, ren] using this
  · cases h

def w64 (n : Int) : Int := IntKind.u64.wrap n
def rolL (s out inn : Int) : Int := (w64 (w64 (w64 (w64 (loS s) + 65521) - w64 out) + w64 inn)).tmod 65521
def rolG (out n : Int) : Int := (w64 (w64 (w64 (n.tmod 65521) * w64 out) + 1)).tmod 65521
def rolH (s out inn n : Int) : Int := (w64 (w64 (w64 (w64 (hiS s) + 65521) - rolG out n) + rolL s out inn)).tmod 65521
def join64 (l h : Int) : Int := IntKind.u32.wrap (w64 ((AM.bits .u64 (w64 (h * 2 ^ (min 16 64))) ||| AM.bits .u64 l).toNat))

theorem rolled_code (s out inn n : Int) (hn : 1 ≤ n) (hf : fineS s = true) : ∃ code, Try.f11.body = some code ∧ Run X T8 11 0 code [(0, .int .u32 s), (1, .int .u8 out), (2, .int .u8 inn), (3, .int .i64 n)] []
    ⟨.ret, [(8, .int .u32 (join64 (rolL s out inn) (rolH s out inn n))), (9, .int .i64 0)], []⟩ := by
  refine ⟨_, rfl, ?_⟩
  have n1 : ¬ n < 1 := by omega
  have hT : ∀ H, T8 12 [.int .u32 s] H = some (.bool true, H) := fun H => by simp [T8, hf]
  refine Run.seq (fr' := [(0, .int .u32 s), (1, .int .u8 out), (2, .int .u8 inn), (3, .int .i64 n)]) (H' := []) ⟨0, rfl⟩ ?_
  refine Run.seq (fr' := [(0, .int .u32 s), (1, .int .u8 out), (2, .int .u8 inn), (3, .int .i64 n), (21, .bool false)]) (H' := []) (Run.seq (fr' := [(0, .int .u32 s), (1, .int .u8 out), (2, .int .u8 inn), (3, .int .i64 n), (21, .bool false)]) (H' := []) ⟨0, ?_⟩ (Run.cond (d := false) rfl ⟨0, rfl⟩)) ?_
  · simp [exec, runOps, dstOk, nt11, wantedV, AM.step, callV, evalT, evalO, evalArgs, ofVal, ofCell, getF, putF, bod12, par12, hT, binV, unV, arith, afterRegion, keep11_1, normX, keepF, n1]
  · refine Run.seq (fr' := [(1, .int .u8 out), (2, .int .u8 inn), (3, .int .i64 n), (10, .int .u32 (loS s)), (11, .int .u32 (hiS s))]) (H' := []) ⟨0, rfl⟩ ?_
    refine Run.seq (fr' := [(1, .int .u8 out), (3, .int .i64 n), (11, .int .u32 (hiS s)), (12, .int .u64 (rolL s out inn))]) (H' := []) ⟨0, rfl⟩ ?_
    refine Run.seq (fr' := [(11, .int .u32 (hiS s)), (12, .int .u64 (rolL s out inn)), (13, .int .u64 (rolG out n))]) (H' := []) ⟨0, rfl⟩ ?_
    refine Run.seq (fr' := [(12, .int .u64 (rolL s out inn)), (14, .int .u64 (rolH s out inn n))]) (H' := []) ⟨0, rfl⟩ ?_
    exact Run.seq (fr' := [(8, .int .u32 (join64 (rolL s out inn) (rolH s out inn n))), (9, .int .i64 0)]) (H' := []) ⟨0, rfl⟩ ⟨0, rfl⟩

theorem rolled_ev (s out inn n : Int) (hn : 1 ≤ n) (hf : fineS s = true) : Ev1 X 11 [.int .u32 s, .int .u8 out, .int .u8 inn, .int .i64 n] [] (.tup [.int .u32 (join64 (rolL s out inn) (rolH s out inn n)), .int .i64 0], []) := by
  obtain ⟨code, hb, hr⟩ := rolled_code s out inn n hn hf
  exact Ev1.of T8_below Try.func11 hb rfl rfl hr (.inr rfl) rfl rfl

-- in plain numbers

theorem bits_u64 {n : Nat} (h : n < 18446744073709551616) : (AM.bits .u64 (n : Int)).toNat = n := by
  show (BitVec.ofInt 64 (n : Int)).toNat = n
  rw [BitVec.toNat_ofInt]
  omega

theorem w64_nat {n : Int} (h0 : 0 ≤ n) (h1 : n < 18446744073709551616) : w64 n = n := wrap_u64 h0 h1

theorem join64_nat {l h : Nat} (hl : l < 65536) (hh : h < 65536) : join64 l h = ((h * 65536 + l : Nat) : Int) := by
  unfold join64
  have e : ((h : Int) * 2 ^ (min 16 64)) = ((h * 65536 : Nat) : Int) := by
    have : (2 : Int) ^ (min 16 64) = 65536 := by decide
    rw [this]; simp
  have e2 : w64 ((h * 65536 : Nat) : Int) = ((h * 65536 : Nat) : Int) := w64_nat (by omega) (by omega)
  rw [e, e2, BitVec.toNat_or, bits_u64 (by omega), bits_u64 (by omega)]
  have hor : h * 65536 ||| l = h * 65536 + l := by
    have := Nat.two_pow_add_eq_or_of_lt (i := 16) (b := l) (by omega) h
    rw [show 2 ^ 16 * h = h * 65536 by omega] at this
    exact this.symm
  rw [hor, w64_nat (by omega) (by omega), wrap_u32 (by omega) (by omega)]

end Go.Proofs.Ytacgdhhappedoaa
