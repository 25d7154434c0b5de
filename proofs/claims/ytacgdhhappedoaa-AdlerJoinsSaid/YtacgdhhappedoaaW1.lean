/- Walks: the sum of bytes. -/
import Derived.Test.YtacgdhhappedoaaX
import Derived.Test.YtacgdhhappedoaaAm3
namespace Go.Proofs.Ytacgdhhappedoaa
open Go.AM

theorem und22 : und X 22 = .slice 5 := by kernel_rfl
theorem und5 : und X 5 = .int .u8 := by kernel_rfl
theorem size5 : sizeT X 5 = 1 := by kernel_rfl
theorem okT5 : okT X 5 = true := by kernel_rfl
theorem isAgg5 : isAggT X 5 = false := by kernel_rfl
theorem nt10 : ntOf X 10 = 38 := by kernel_rfl

/-- halves -/
def loS (s : Int) : Int := IntKind.u32.wrap ((AM.bits .u32 s &&& AM.bits .u32 65535).toNat)
def hiS (s : Int) : Int := s.fdiv (2 ^ (min 16 32))

theorem run13 (s : Int) : enterV X (runBody X (fun _ _ _ => .none) 1) 13 [.int .u32 s] [] = some (.tup [.int .u32 (loS s), .int .u32 (hiS s)], []) := by
  rfl

def T1 : Cf := fun f args H => match f, args, H with
  | 13, [.int .u32 s], [] => some (.tup [.int .u32 (loS s), .int .u32 (hiS s)], [])
  | _, _, _ => .none

theorem T1_below : Below X T1 := by
  intro f args H r h
  unfold T1 at h
  split at h
  · rw [← Option.some.inj h]
    exact enter_ev Below.none (run13 _)
  · cases h

/-- one byte more -/
def lo1 (lo : Int) (b : UInt8) : Int := (IntKind.u32.wrap (lo + IntKind.u32.wrap (b.toNat : Int))).tmod 65521
def hi1 (lo hi : Int) (b : UInt8) : Int := (IntKind.u32.wrap (hi + lo1 lo b)).tmod 65521

/-- the sums of bytes, on from two halves -/
def moreN : Int → Int → List UInt8 → Int × Int
  | lo, hi, [] => (lo, hi)
  | lo, hi, b :: r => moreN (lo1 lo b) (hi1 lo hi b) r

def joinS (lo hi : Int) : Int := IntKind.u32.wrap ((AM.bits .u32 (IntKind.u32.wrap (hi * 2 ^ (min 16 32))) ||| AM.bits .u32 lo).toNat)

def moreS (s : Int) (l : List UInt8) : Int := joinS (moreN ((loS s).tmod 65521) ((hiS s).tmod 65521) l).1 (moreN ((loS s).tmod 65521) ((hiS s).tmod 65521) l).2

theorem more_code (c t : Nat) (l : List UInt8) (hl63 : l.length < 9223372036854775807) : ∃ code, Try.f10.body = some code ∧ ∀ (s : Int), Run X T1 10 0 code [(0, .int .u32 s), (1, .ro c (.pb l) t)] [] ⟨.ret, [(4, .int .u32 (moreS s l))], []⟩ := by
  refine ⟨_, rfl, fun s => ?_⟩
  refine Run.seq (fr' := [(0, .int .u32 s), (1, .ro c (.pb l) t)]) (H' := []) ⟨0, rfl⟩ ?_
  refine Run.seq (fr' := [(1, .ro c (.pb l) t), (5, .int .u32 (loS s)), (6, .int .u32 (hiS s))]) (H' := []) ⟨0, rfl⟩ ?_
  refine Run.seq (fr' := [(1, .ro c (.pb l) t), (5, .int .u32 ((loS s).tmod 65521)), (6, .int .u32 ((hiS s).tmod 65521))]) (H' := []) ⟨0, rfl⟩ ?_
  unfold moreS
  generalize (loS s).tmod 65521 = lo
  generalize (hiS s).tmod 65521 = hi
  refine Run.seq (fr' := [(5, .int .u32 (moreN lo hi l).1), (6, .int .u32 (moreN lo hi l).2), (18, .ro c (.pb l) t), (19, .int .i64 l.length), (20, .int .i64 l.length), (21, .bool false)]) (H' := []) ?_ ?_
  · refine Run.seq (fr' := [(5, .int .u32 lo), (6, .int .u32 hi), (18, .ro c (.pb l) t), (19, .int .i64 l.length), (20, .int .i64 (0 : Nat))]) (H' := []) ⟨0, rfl⟩ ?_
    refine Run.block_exit (fr' := [(5, .int .u32 (moreN lo hi l).1), (6, .int .u32 (moreN lo hi l).2), (18, .ro c (.pb l) t), (19, .int .i64 l.length), (20, .int .i64 l.length), (21, .bool false)]) (H' := []) ?_
    refine Run.loop_rule (σ := Int × Int × List UInt8 × List UInt8) (fun s => s.2.2.1 ++ s.2.2.2 = l) (fun s => [(5, .int .u32 s.1), (6, .int .u32 s.2.1), (18, .ro c (.pb l) t), (19, .int .i64 l.length), (20, .int .i64 (s.2.2.1.length : Nat))]) (fun _ => [])
      (fun s => ⟨.exit 0, [(5, .int .u32 (moreN s.1 s.2.1 s.2.2.2).1), (6, .int .u32 (moreN s.1 s.2.1 s.2.2.2).2), (18, .ro c (.pb l) t), (19, .int .i64 l.length), (20, .int .i64 l.length), (21, .bool false)], []⟩) (fun s => s.2.2.2.length) ?_ (lo, hi, [], l) rfl
    rintro ⟨lo, hi, done, todo⟩ hl
    simp only at hl ⊢
    have r4 : ∀ d : Bool, decide ((done.length : Int) < l.length) = d → exec X T1 10 0 0 (.region 4 #[{ dst := some 21, op := Op.binOp BinOp.lss 3 (Operand.tmp 20) (Operand.tmp 19) 3, type := 0, pos := "adler.go:21", after := #[], guard := .none }] false)
        [(5, .int .u32 lo), (6, .int .u32 hi), (18, .ro c (.pb l) t), (19, .int .i64 l.length), (20, .int .i64 (done.length : Nat))] [] = some ⟨.normal, [(5, .int .u32 lo), (6, .int .u32 hi), (18, .ro c (.pb l) t), (19, .int .i64 l.length), (20, .int .i64 (done.length : Nat)), (21, .bool d)], []⟩ := by
      rintro d rfl
      rfl
    cases todo with
    | nil =>
      right
      have hlen : done.length = l.length := by rw [← hl]; simp
      refine ⟨Run.seq ⟨0, r4 false (by simp [hlen])⟩ ?_, by simp⟩
      refine Run.seq_out (Run.cond (d := false) rfl ⟨0, ?_⟩) (by simp)
      rw [hlen]
      rfl
    | cons b todo =>
      left
      have hlen : done.length < l.length := by rw [← hl]; simp
      have hget : l[done.length] = b := by
        have h1 : l[done.length]? = some b := by rw [← hl]; simp
        exact (List.getElem?_eq_some_iff.1 h1).2
      refine ⟨(lo1 lo b, hi1 lo hi b, done ++ [b], todo), by simpa using hl, ?_, rfl, by simp⟩
      refine Run.seq ⟨0, r4 true (by simp; omega)⟩ ?_
      refine Run.seq (fr' := [(5, .int .u32 lo), (6, .int .u32 hi), (18, .ro c (.pb l) t), (19, .int .i64 l.length), (20, .int .i64 (done.length : Nat)), (21, .bool true)]) (H' := []) (Run.cond (d := true) rfl ⟨0, rfl⟩) ?_
      refine Run.seq (fr' := [(5, .int .u32 (lo1 lo b)), (6, .int .u32 (hi1 lo hi b)), (18, .ro c (.pb l) t), (19, .int .i64 l.length), (20, .int .i64 (done.length : Nat))]) (H' := []) (Run.block ?_ (by simp)) ?_
      · refine Run.seq (fr' := [(5, .int .u32 lo), (6, .int .u32 hi), (8, .int .u8 (b.toNat : Int)), (18, .ro c (.pb l) t), (19, .int .i64 l.length), (20, .int .i64 (done.length : Nat))]) (H' := []) ⟨0, ?_⟩ ?_
        · simp [exec, runOps, dstOk, nt10, wantedV, AM.step, evalT, evalO, getF, putF, indexAddrV, loadV, und22, und5, size5, okT5, isAgg5, plen, pesz, pget, hget, hlen, assignV, retag, byteAV, afterRegion]
          rfl
        · refine Run.seq (fr' := [(5, .int .u32 (lo1 lo b)), (6, .int .u32 hi), (18, .ro c (.pb l) t), (19, .int .i64 l.length), (20, .int .i64 (done.length : Nat))]) (H' := []) ⟨0, rfl⟩ ?_
          exact ⟨0, rfl⟩
      · have e : IntKind.i64.wrap ((done.length : Int) + 1) = ((done ++ [b]).length : Nat) := by
          rw [wrap_i64 (by omega) (by omega)]
          simp
        rw [← e]
        exact ⟨0, rfl⟩
  · refine Run.seq (fr' := [(4, .int .u32 (joinS (moreN lo hi l).1 (moreN lo hi l).2))]) (H' := []) ⟨0, rfl⟩ ?_
    exact ⟨0, rfl⟩

end Go.Proofs.Ytacgdhhappedoaa
