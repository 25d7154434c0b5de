/- AdlerJoins: the walk. -/
import Derived.Test.YtacgdhhappedoaaWB
namespace Go.Proofs.Ytacgdhhappedoaa
open Go.AM

def T13 : Cf := fun f args H => match f, args with
  | 9, [.int .u32 a, .int .u32 b, .int .i64 n] => if 0 ≤ n ∧ fineS a = true ∧ fineS b = true then some (.tup [.int .u32 (join64 (joiL a b) (joiH a b n)), .int .i64 0], H) else .none
  | _, _ => .none

def T12 : Cf := orT T13 (orT T6 T2)

theorem T12_below : Below X T12 := by
  refine orT_below (fun f args H r h => ?_) (orT_below T6_below T2_below)
  unfold T13 at h
  split at h
  · rename_i a b n
    split at h
    · rename_i hc
      rw [← Option.some.inj h]
      have := Ev1.frame (joined_ev a b n hc.1 hc.2.1 hc.2.2) rfl H
      simpa [shiftV, shiftH, ren, renL] using this
    · cases h
  · cases h

theorem T12_lives (H : AM.Heap) : T12 7 [] H = some (.bool true, H) := by simp [T12, orT, T13, T6_lives]

theorem T12_ro (c t : Nat) (l : List UInt8) (hl : l.length < 9223372036854775807) (H : AM.Heap) : T12 8 [.ro c (.pb l) t] H = some (.int .u32 (sumF l), H) := by
  have := T6_ro c t l hl H
  simp [T12, orT, T13, this]

theorem T12_more (c t : Nat) (s : Int) (l : List UInt8) (hl : l.length < 9223372036854775807) (H : AM.Heap) : T12 10 [.int .u32 s, .ro c (.pb l) t] H = some (.int .u32 (moreS s l), H) := by
  have h1 : tabF rowsL 10 [.int .u32 s, .ro c (.pb l) t] H = .none := rfl
  simp [T12, orT, T13, T6, h1, T3, T2, hl]

set_option maxRecDepth 100000 in
theorem T12_joined (a b : List UInt8) (n : Int) (hn : n = (b.length : Nat)) (hl : b.length < 65521) (H : AM.Heap) : T12 9 [.int .u32 (sumF a), .int .u32 (sumF b), .int .i64 n] H = some (.tup [.int .u32 (sumF (a ++ b)), .int .i64 0], H) := by
  subst hn
  have hc : (0 : Int) ≤ ((b.length : Nat) : Int) ∧ fineS (sumF a) = true ∧ fineS (sumF b) = true := ⟨by omega, fine_sum a, fine_sum b⟩
  simp only [T12, orT, T13, if_pos hc, joined_sum a b hl]

theorem nt3 : ntOf X 3 = 116 := by kernel_rfl
theorem keep3_3 : X.keep 3 3 = some [0, 1, 2, 31] := by kernel_rfl
theorem keep3_5 : X.keep 3 5 = some [0, 1, 2, 7] := by kernel_rfl
theorem keep3_6 : X.keep 3 6 = some [0, 1, 2, 8] := by kernel_rfl
theorem keep3_7 : X.keep 3 7 = some [0, 1, 2, 8, 9, 10] := by kernel_rfl
theorem keep3_8 : X.keep 3 8 = some [0, 1, 2, 8, 10, 11, 12] := by kernel_rfl
theorem keep3_9 : X.keep 3 9 = some [0, 1, 2, 8, 10, 11, 12, 13, 14] := by kernel_rfl
theorem keep3_10 : X.keep 3 10 = some [0, 1, 2, 8, 10, 11, 12, 14, 15, 16] := by kernel_rfl
theorem keep3_11 : X.keep 3 11 = some [6] := by kernel_rfl
theorem bod9 : bodied X 9 = true := by kernel_rfl
theorem par9 : paramsOf X 9 = [24, 24, 3] := by kernel_rfl

def jobj (l : List UInt8) (g : Nat) : AM.Obj := ⟨.pb l, g, .none, 1, true, false, 0⟩

theorem app_first (c t : Nat) (l : List UInt8) (hl : l.length ≤ 60000) : appendV X [] 22 (.ro 1 (.pb []) 0) (.ro c (.pb l) t) = some (.sl 0 0 l.length 0, [some (jobj l 0)]) := by
  have hroom : l.length * 1 ≤ 140737488355328 ∧ l.length ≤ 4611686018427387904 := by omega
  simp [appendV, und22, size5, zero5, srcV, payB, plen, roomOk, bytes5, hroom, emptyRow, und5, papp, pesz, ptag, jobj]
  omega

theorem app_more (c t g : Nat) (p l : List UInt8) (hl : p.length + l.length ≤ 60000) : appendV X [some (jobj p g)] 22 (.sl 0 0 p.length g) (.ro c (.pb l) t) = some (.sl 0 0 (p ++ l).length (g + 1), [some (jobj (p ++ l) (g + 1))]) := by
  have hroom : roomOk X 5 (p.length + l.length) = true := by
    simp [roomOk, bytes5]
    omega
  have ht : p.take p.length = p := List.take_of_length_le (Nat.le_refl _)
  simp [appendV, und22, size5, zero5, srcV, payB, plen, hroom, live, psub, ht, papp, pesz, ptag, jobj, joinTag, upd]

set_option maxRecDepth 100000 in
theorem joins_code (c0 c1 c2 : Nat) (a b d : List UInt8) : ∃ code, Try.f3.body = some code ∧ ∃ H, Run X T12 3 0 code [(0, .ro c0 (.pb a) 1), (1, .ro c1 (.pb b) 2), (2, .ro c2 (.pb d) 3)] [] ⟨.ret, [(6, .bool true)], H⟩ := by
  refine ⟨_, rfl, ?_⟩
  by_cases hg : 20000 < (a.length : Int) ∨ 20000 < (b.length : Int) ∨ 20000 < (d.length : Int)
  · refine ⟨[], ?_⟩
    refine Run.seq (fr' := [(0, .ro c0 (.pb a) 1), (1, .ro c1 (.pb b) 2), (2, .ro c2 (.pb d) 3)]) (H' := []) ⟨0, rfl⟩ ?_
    refine Run.seq (fr' := [(0, .ro c0 (.pb a) 1), (1, .ro c1 (.pb b) 2), (2, .ro c2 (.pb d) 3), (18, .bool false)]) (H' := []) ⟨0, by rfl⟩ ?_
    refine Run.seq_out (Run.seq (fr' := [(0, .ro c0 (.pb a) 1), (1, .ro c1 (.pb b) 2), (2, .ro c2 (.pb d) 3), (31, .bool true)]) (H' := []) ⟨0, ?_⟩ ?_) (by simp)
    · by_cases a1 : 20000 < (a.length : Int)
      · simp [exec, runOps, dstOk, nt3, wantedV, AM.step, callV, builtinV, lenV, evalT, evalO, evalArgs, ofVal, ofCell, getF, putF, und22, plen, binV, arith, afterRegion, keep3_3, normX, keepF, a1]
      · by_cases a2 : 20000 < (b.length : Int)
        · simp [exec, runOps, dstOk, nt3, wantedV, AM.step, callV, builtinV, lenV, evalT, evalO, evalArgs, ofVal, ofCell, getF, putF, und22, plen, binV, arith, afterRegion, keep3_3, normX, keepF, a1, a2]
        · have a3 : 20000 < (d.length : Int) := by
            rcases hg with h | h | h
            · exact absurd h a1
            · exact absurd h a2
            · exact h
          simp [exec, runOps, dstOk, nt3, wantedV, AM.step, callV, builtinV, lenV, evalT, evalO, evalArgs, ofVal, ofCell, getF, putF, und22, plen, binV, arith, afterRegion, keep3_3, normX, keepF, a1, a2, a3]
    · exact Run.cond (d := true) rfl ⟨0, rfl⟩
  · simp only [not_or, Int.not_lt] at hg
    obtain ⟨a1, a2, a3⟩ := hg
    have n1 : ¬ 20000 < (a.length : Int) := by omega
    have n2 : ¬ 20000 < (b.length : Int) := by omega
    have n3 : ¬ 20000 < (d.length : Int) := by omega
    obtain ⟨ab, hab⟩ : ∃ x, a ++ b = x := ⟨_, rfl⟩
    obtain ⟨abd, habd⟩ : ∃ x, ab ++ d = x := ⟨_, rfl⟩
    obtain ⟨bd, hbd⟩ : ∃ x, b ++ d = x := ⟨_, rfl⟩
    have habd' : a ++ bd = abd := by rw [← hbd, ← habd, ← hab, List.append_assoc]
    have lab : ab.length = a.length + b.length := by rw [← hab]; simp
    have labd : abd.length = ab.length + d.length := by rw [← habd]; simp
    have lbd : (b.length : Int) + d.length = (bd.length : Nat) := by rw [← hbd]; simp
    refine ⟨[some (jobj abd 2)], ?_⟩
    refine Run.seq (fr' := [(0, .ro c0 (.pb a) 1), (1, .ro c1 (.pb b) 2), (2, .ro c2 (.pb d) 3)]) (H' := []) ⟨0, rfl⟩ ?_
    refine Run.seq (fr' := [(0, .ro c0 (.pb a) 1), (1, .ro c1 (.pb b) 2), (2, .ro c2 (.pb d) 3), (18, .bool false)]) (H' := []) ⟨0, by rfl⟩ ?_
    refine Run.seq (fr' := [(0, .ro c0 (.pb a) 1), (1, .ro c1 (.pb b) 2), (2, .ro c2 (.pb d) 3), (31, .bool false)]) (H' := []) (Run.seq (fr' := [(0, .ro c0 (.pb a) 1), (1, .ro c1 (.pb b) 2), (2, .ro c2 (.pb d) 3), (31, .bool false)]) (H' := []) ⟨0, ?_⟩ (Run.cond (d := false) rfl ⟨0, rfl⟩)) ?_
    · simp [exec, runOps, dstOk, nt3, wantedV, AM.step, callV, builtinV, lenV, evalT, evalO, evalArgs, ofVal, ofCell, getF, putF, und22, plen, binV, arith, afterRegion, keep3_3, normX, keepF, n1, n2, n3]
    have e1 : T12 8 [.sl 0 0 abd.length 2] [some (jobj abd 2)] = some (.int .u32 (sumF abd), [some (jobj abd 2)]) := by
      have := T6_sl (H := [some (jobj abd 2)]) (o := 0) (off := 0) (len := abd.length) (g := 2) (ob := jobj abd 2) (l := abd) rfl rfl (by
        have : abd.take abd.length = abd := List.take_of_length_le (Nat.le_refl _)
        simp [jobj, psub, this]) (by omega)
      simp [T12, orT, T13, this]
    have sa := fun t => T12_ro c0 t a (by omega) [some (jobj abd 2)]
    have sb := fun t => T12_ro c1 t b (by omega) [some (jobj abd 2)]
    have sd := fun t => T12_ro c2 t d (by omega) [some (jobj abd 2)]
    have j1 := T12_joined a b b.length rfl (by omega) [some (jobj abd 2)]
    have j2 := T12_joined ab d d.length rfl (by omega) [some (jobj abd 2)]
    have j3 := T12_joined b d d.length rfl (by omega) [some (jobj abd 2)]
    have j4 := T12_joined a bd ((b.length : Int) + d.length) lbd (by omega) [some (jobj abd 2)]
    rw [hab] at j1
    rw [habd] at j2
    rw [hbd] at j3
    rw [habd'] at j4
    have m1 := T12_more c1 2 (sumF a) b (by omega) [some (jobj abd 2)]
    have m2 := T12_more c2 3 (sumF ab) d (by omega) [some (jobj abd 2)]
    rw [more_sum, hab] at m1
    rw [more_sum, habd] at m2
    have hw : IntKind.i64.wrap ((b.length : Int) + (d.length : Int)) = (b.length : Int) + d.length := wrap_i64 (by omega) (by omega)
    refine Run.seq (fr' := [(0, .ro c0 (.pb a) 1), (1, .ro c1 (.pb b) 2), (2, .ro c2 (.pb d) 3), (7, .sl 0 0 abd.length 2)]) (H' := [some (jobj abd 2)]) ⟨0, ?_⟩ ?_
    · have hbs : buildSliceV X [] 22 0 [] = some (.ro 1 (.pb []) 0, []) := rfl
      have p1 := app_first c0 1 a (by omega)
      have p2 := app_more c1 2 0 a b (by omega)
      rw [hab] at p2
      have p3 := app_more c2 3 1 ab d (by omega)
      rw [habd] at p3
      simp [exec, runOps, dstOk, nt3, wantedV, AM.step, callV, builtinV, evalArgs, evalParts, evalT, evalO, ofVal, ofCell, getF, putF, hbs, p1, p2, p3, okT22, isInt22, assignV, afterRegion, keep3_5, normX, keepF]
    refine Run.seq (fr' := [(0, .ro c0 (.pb a) 1), (1, .ro c1 (.pb b) 2), (2, .ro c2 (.pb d) 3), (8, .int .u32 (sumF abd))]) (H' := [some (jobj abd 2)]) ⟨0, ?_⟩ ?_
    · simp [exec, runOps, dstOk, nt3, wantedV, AM.step, callV, evalArgs, evalT, evalO, getF, putF, bod8, par8, e1, assignV, afterRegion, keep3_6, normX, keepF]
    refine Run.seq (fr' := [(0, .ro c0 (.pb a) 1), (1, .ro c1 (.pb b) 2), (2, .ro c2 (.pb d) 3), (8, .int .u32 (sumF abd)), (9, .int .u32 (sumF ab)), (10, .int .i64 0)]) (H' := [some (jobj abd 2)]) ⟨0, ?_⟩ ?_
    · simp [exec, runOps, dstOk, nt3, wantedV, AM.step, callV, builtinV, lenV, und22, plen, evalArgs, evalT, evalO, getF, putF, bod8, par8, bod9, par9, sa, sb, j1, assignV, afterRegion, keep3_7, normX, keepF]
    refine Run.seq (fr' := [(0, .ro c0 (.pb a) 1), (1, .ro c1 (.pb b) 2), (2, .ro c2 (.pb d) 3), (8, .int .u32 (sumF abd)), (10, .int .i64 0), (11, .int .u32 (sumF abd)), (12, .int .i64 0)]) (H' := [some (jobj abd 2)]) ⟨0, ?_⟩ ?_
    · simp [exec, runOps, dstOk, nt3, wantedV, AM.step, callV, builtinV, lenV, und22, plen, evalArgs, evalT, evalO, getF, putF, bod8, par8, bod9, par9, sd, j2, assignV, afterRegion, keep3_8, normX, keepF]
    refine Run.seq (fr' := [(0, .ro c0 (.pb a) 1), (1, .ro c1 (.pb b) 2), (2, .ro c2 (.pb d) 3), (8, .int .u32 (sumF abd)), (10, .int .i64 0), (11, .int .u32 (sumF abd)), (12, .int .i64 0), (13, .int .u32 (sumF bd)), (14, .int .i64 0)]) (H' := [some (jobj abd 2)]) ⟨0, ?_⟩ ?_
    · simp [exec, runOps, dstOk, nt3, wantedV, AM.step, callV, builtinV, lenV, und22, plen, evalArgs, evalT, evalO, getF, putF, bod8, par8, bod9, par9, sb, sd, j3, assignV, afterRegion, keep3_9, normX, keepF]
    refine Run.seq (fr' := [(0, .ro c0 (.pb a) 1), (1, .ro c1 (.pb b) 2), (2, .ro c2 (.pb d) 3), (8, .int .u32 (sumF abd)), (10, .int .i64 0), (11, .int .u32 (sumF abd)), (12, .int .i64 0), (14, .int .i64 0), (15, .int .u32 (sumF abd)), (16, .int .i64 0)]) (H' := [some (jobj abd 2)]) ⟨0, ?_⟩ ?_
    · simp [exec, runOps, dstOk, nt3, wantedV, AM.step, callV, builtinV, lenV, und22, plen, evalArgs, evalT, evalO, getF, putF, bod8, par8, bod9, par9, sa, binV, arith, hw, j4, assignV, afterRegion, keep3_10, normX, keepF]
    refine Run.seq (fr' := [(6, .bool true)]) (H' := [some (jobj abd 2)]) ⟨0, ?_⟩ ⟨0, rfl⟩
    simp [exec, runOps, dstOk, nt3, wantedV, AM.step, callV, evalArgs, evalT, evalO, ofVal, ofCell, getF, putF, bod8, par8, bod10, par10, sa, m1, m2, binV, arith, assignV, afterRegion, keep3_11, normX, keepF]

theorem joins_ev (c0 c1 c2 : Nat) (a b d : List UInt8) : Ev1 X 3 [.ro c0 (.pb a) 1, .ro c1 (.pb b) 1, .ro c2 (.pb d) 1] [] (.bool true, []) := by
  obtain ⟨code, hb, H, hr⟩ := joins_code c0 c1 c2 a b d
  refine Ev1.of T12_below Try.func3 hb rfl rfl hr (.inr rfl) rfl ?_
  simp [wrap, resultV, getF, tags, reach_nil, idsL, ids, tagsObjs, ren, strike, putBack, List.flatMap]

end Go.Proofs.Ytacgdhhappedoaa
