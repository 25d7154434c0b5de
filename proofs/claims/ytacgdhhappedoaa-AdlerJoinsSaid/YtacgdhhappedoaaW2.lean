/- Walks: sums, joined sums. -/
import Derived.Test.YtacgdhhappedoaaW1
namespace Go.Proofs.Ytacgdhhappedoaa
open Go.AM

theorem more_ev (s : Int) (c t : Nat) (l : List UInt8) (hl : l.length < 9223372036854775807) : Ev1 X 10 [.int .u32 s, .ro c (.pb l) t] [] (.int .u32 (moreS s l), []) := by
  obtain ⟨code, hb, hr⟩ := more_code c 2 l hl
  exact Ev1.of T1_below Try.func10 hb rfl rfl (hr s) (.inr rfl) rfl rfl

def T2 : Cf := fun f args H => match f, args with
  | 10, [.int .u32 s, .ro _ (.pb l) _] => if l.length < 9223372036854775807 then some (.int .u32 (moreS s l), H) else .none
  | _, _ => .none

theorem T2_below : Below X T2 := by
  intro f args H r h
  unfold T2 at h
  split at h
  · split at h
    · rename_i s c l t hl
      rw [← Option.some.inj h]
      have := Ev1.frame (more_ev s c t l hl) rfl H
      simpa [shiftV, shiftH, ren] using this
    · cases h
  · cases h

theorem nt8 : ntOf X 8 = 5 := by kernel_rfl
theorem bod10 : bodied X 10 = true := by kernel_rfl
theorem par10 : paramsOf X 10 = [24, 22] := by kernel_rfl
theorem keep8 : X.keep 8 1 = some [2] := by kernel_rfl
theorem normX (f i : Nat) : X.norm f i = false := rfl

theorem sum_code (c t : Nat) (l : List UInt8) (hl : l.length < 9223372036854775807) : ∃ code, Try.f8.body = some code ∧ Run X T2 8 0 code [(0, .ro c (.pb l) t)] [] ⟨.ret, [(2, .int .u32 (moreS 1 l))], []⟩ := by
  refine ⟨_, rfl, ?_⟩
  have hT : ∀ s t H, T2 10 [.int .u32 s, .ro c (.pb l) t] H = some (.int .u32 (moreS s l), H) := by intro s t H; simp [T2, hl]
  refine Run.seq (fr' := [(0, .ro c (.pb l) t)]) (H' := []) ⟨0, rfl⟩ ?_
  refine Run.seq (fr' := [(2, .int .u32 (moreS 1 l))]) (H' := []) ⟨0, ?_⟩ ⟨0, rfl⟩
  simp [exec, runOps, dstOk, nt8, wantedV, AM.step, callV, evalT, evalO, evalArgs, bod10, par10, ofVal, ofCell, hT, getF, putF, assignV, afterRegion, keep8, normX, keepF]

theorem sum_ev (c t : Nat) (l : List UInt8) (hl : l.length < 9223372036854775807) : Ev1 X 8 [.ro c (.pb l) t] [] (.int .u32 (moreS 1 l), []) := by
  obtain ⟨code, hb, hr⟩ := sum_code c 1 l hl
  exact Ev1.of T2_below Try.func8 hb rfl rfl hr (.inr rfl) rfl rfl

end Go.Proofs.Ytacgdhhappedoaa
