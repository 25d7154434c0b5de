/- AdlerNames: the loop that fills, and the run. -/
import Derived.Test.YtacgdhhappedoaaW3
namespace Go.Proofs.Ytacgdhhappedoaa
open Go.AM

def fillL (i : Nat) : List UInt8 := List.replicate i 255 ++ List.replicate (6000 - i) 0

theorem fillL_len {i : Nat} (h : i ≤ 6000) : (fillL i).length = 6000 := by simp [fillL]; omega

theorem fillL_set {i : Nat} (h : i < 6000) : (fillL i).set i 255 = fillL (i + 1) := by
  unfold fillL
  obtain ⟨k, hk⟩ : ∃ k, 6000 - i = k + 1 := ⟨6000 - i - 1, by omega⟩
  have hk' : 6000 - (i + 1) = k := by omega
  rw [hk, hk', List.set_append_right _ _ (by simp), show List.replicate (i + 1) (255 : UInt8) = List.replicate i 255 ++ [255] from List.replicate_succ']
  simp [List.replicate_succ]

def fobj (i : Nat) : AM.Obj := ⟨.pb (fillL i), 0, some 6000, 1, true, false, 0⟩

theorem fillL_zero : fillL 0 = List.replicate 6000 0 := by unfold fillL; rw [List.replicate_zero, List.nil_append, Nat.sub_zero]

theorem fobj_zero : fobj 0 = ⟨.pb (List.replicate 6000 0), 0, some 6000, 1, true, false, 0⟩ := by unfold fobj; rw [fillL_zero]

def rowLives : Row1 := ⟨7, [], .bool true, []⟩
def rowJoined : Row1 := ⟨9, [.int .u32 65521, .int .u32 1, .int .i64 0], .tup [.int .u32 0, .int .i64 2], []⟩
def rowRolled : Row1 := ⟨11, [.int .u32 1, .int .u8 0, .int .u8 0, .int .i64 0], .tup [.int .u32 0, .int .i64 2], []⟩
def rowsL : List Row1 := [rowLives, rowJoined, rowRolled]

set_option maxRecDepth 100000 in
theorem rowsL_ok : RowsOk X rowsL :=
  RowsOk.cons T3_below (RowsOk.cons T3_below (RowsOk.cons T3_below RowsOk.nil (n := 300) (by kernel_rfl)) (n := 300) (by kernel_rfl)) (n := 300) (by kernel_rfl)

def T6 : Cf := orT (tabF rowsL) T3
theorem T6_below : Below X T6 := orT_below (tabF_below rowsL_ok) T3_below

set_option maxRecDepth 1000000 in
theorem sum_full : sumF (fillL 6000) = 2761382378 := by kernel_rfl

theorem T6_full : T6 8 [.sl 0 0 6000 0] [some (fobj 6000)] = some (.int .u32 2761382378, [some (fobj 6000)]) := by
  have h1 : tabF rowsL 8 [.sl 0 0 6000 0] [some (fobj 6000)] = .none := rfl
  have h2 : (fillL 6000).length = 6000 := fillL_len (by omega)
  have h3 : psub (.pb (fillL 6000)) 0 6000 = some (.pb (fillL 6000)) := by
    simp only [psub, h2, Nat.zero_add, Nat.le_refl, if_true, List.drop_zero]
    rw [List.take_of_length_le (by omega)]
  have h4 : live [some (fobj 6000)] 0 0 = some (fobj 6000) := rfl
  have h5 : (fobj 6000).ids = false := rfl
  have h6 : (fobj 6000).p = .pb (fillL 6000) := rfl
  simp only [T6, orT, h1, T3, h4, h5, h6, h3, h2, Bool.false_eq_true, if_false, sum_full]
  rfl

theorem T6_lives (H : AM.Heap) : T6 7 [] H = some (.bool true, H) := by
  have : tabF rowsL 7 [] H = some (.bool true, H ++ []) := rfl
  simp [T6, orT, this]

theorem T6_a (H : AM.Heap) (c t : Nat) : T6 8 [.ro c (.pb [97]) t] H = some (.int .u32 6422626, H) := by
  have h1 : tabF rowsL 8 [.ro c (.pb [97]) t] H = .none := rfl
  have h2 : sumF [97] = 6422626 := by kernel_rfl
  simp [T6, orT, h1, T3, h2]

theorem bod7 : bodied X 7 = true := by kernel_rfl
theorem bod8 : bodied X 8 = true := by kernel_rfl
theorem par7 : paramsOf X 7 = [] := by kernel_rfl
theorem par8 : paramsOf X 8 = [22] := by kernel_rfl
theorem keep5_8 : X.keep 5 8 = some [0] := by kernel_rfl

theorem nt5 : ntOf X 5 = 45 := by kernel_rfl
theorem keep5_5 : X.keep 5 5 = some [1, 2] := by kernel_rfl

set_option maxRecDepth 100000 in
theorem names_code : ∃ code, Try.f5.body = some code ∧ ∃ out, Run X (T6) 5 0 code [] [] out ∧ out.ex = .ret ∧ resultsV X out.fr out.H Try.f5.results.toList = some [.bool true] := by
  refine ⟨_, rfl, ?_⟩
  refine ⟨⟨.ret, [(0, .bool true)], [some (fobj 6000)]⟩, ?_, rfl, rfl⟩
  refine Run.seq (fr' := []) (H' := []) ⟨0, rfl⟩ ?_
  refine Run.seq (fr' := [(1, .sl 0 0 6000 0)]) (H' := [some ⟨.pb (List.replicate 6000 0), 0, some 6000, 1, true, false, 0⟩]) ⟨0, rfl⟩ ?_
  rw [← fobj_zero]
  refine Run.seq (fr' := [(1, .sl 0 0 6000 0), (2, .int .i64 6000), (11, .bool false)]) (H' := [some (fobj 6000)]) ?_ ?_
  · refine Run.seq (fr' := [(1, .sl 0 0 6000 0), (2, .int .i64 (0 : Nat))]) (H' := [some (fobj 0)]) ⟨0, rfl⟩ ?_
    refine Run.block_exit ?_
    refine Run.loop_rule (σ := Nat) (fun i => i ≤ 6000) (fun i => [(1, .sl 0 0 6000 0), (2, .int .i64 (i : Nat))]) (fun i => [some (fobj i)]) (fun _ => ⟨.exit 0, [(1, .sl 0 0 6000 0), (2, .int .i64 6000), (11, .bool false)], [some (fobj 6000)]⟩) (fun i => 6000 - i) ?_ 0 (by omega)
    intro i hi
    simp only
    by_cases h : i = 6000
    · right
      subst h
      refine ⟨Run.seq_out (Run.seq (fr' := [(1, .sl 0 0 6000 0), (2, .int .i64 (6000 : Nat)), (11, .bool false)]) (H' := [some (fobj 6000)]) ⟨0, rfl⟩ (Run.cond (d := false) rfl ⟨0, rfl⟩)) (by simp), by simp⟩
    · left
      have hlt : i < 6000 := by omega
      have hlt' : (i : Int) < 6000 := by omega
      have hd : decide ((i : Int) < 6000) = true := by simp; omega
      refine ⟨i + 1, by omega, ?_, trivial, by omega⟩
      refine Run.seq (fr' := [(1, .sl 0 0 6000 0), (2, .int .i64 (i : Nat)), (11, .bool true)]) (H' := [some (fobj i)]) (Run.seq (fr' := [(1, .sl 0 0 6000 0), (2, .int .i64 (i : Nat)), (11, .bool true)]) (H' := [some (fobj i)]) ⟨0, by rw [← hd]; rfl⟩ (Run.cond (d := true) rfl ⟨0, rfl⟩)) ?_
      refine Run.seq (fr' := [(1, .sl 0 0 6000 0), (2, .int .i64 (i : Nat))]) (H' := [some (fobj (i + 1))]) (Run.block ⟨0, ?_⟩ (by simp)) ?_
      · have h6 : (fillL i).length = 6000 := fillL_len hi
        simp [exec, runOps, dstOk, nt5, wantedV, AM.step, evalT, evalO, ofVal, ofCell, getF, putF, indexAddrV, hlt', storeV, putV, pset, live, fobj, und22, und5, size5, okT5, isAgg5, plen, pesz, freezeP, freezeV, ids, tags, joinTags, joinTag, scalar, upd, afterRegion, keep5_5, normX, keepF, hlt, h6]
        exact fillL_set hlt
      · have e : IntKind.i64.wrap ((i : Int) + 1) = ((i + 1 : Nat) : Int) := by
          rw [wrap_i64 (by omega) (by omega)]
          simp
        rw [← e]
        exact ⟨0, rfl⟩
  · refine Run.seq (fr' := [(1, .sl 0 0 6000 0), (4, .int .i64 2)]) (H' := [some (fobj 6000)]) ⟨0, by rfl⟩ ?_
    refine Run.seq (fr' := [(1, .sl 0 0 6000 0), (4, .int .i64 2), (6, .int .i64 2)]) (H' := [some (fobj 6000)]) ⟨0, by rfl⟩ ?_
    refine Run.seq (fr' := [(0, .bool true)]) (H' := [some (fobj 6000)]) ⟨0, ?_⟩ ⟨0, rfl⟩
    have hb : buildSliceV X [some (fobj 6000)] 22 1 [(0, .int .u8 97)] = some (.ro 1 (.pb [97]) 0, [some (fobj 6000)]) := rfl
    have hc : convV X [some (fobj 6000)] 22 22 (.ro 1 (.pb [97]) 0) = some (.ro 1 (.pb [97]) 0, [some (fobj 6000)]) := rfl
    simp [exec, runOps, dstOk, nt5, wantedV, AM.step, callV, evalT, evalO, evalArgs, evalParts, ofVal, ofCell, getF, putF, elemOfT, und22, hb, hc, bod7, bod8, par7, par8, T6_lives, T6_a, T6_full, binV, arith, assignV, afterRegion, keep5_8, normX, keepF]

theorem names_ev : Ev1 X 5 [] [] (.bool true, []) := by
  obtain ⟨code, hb, out, hr, he, hres⟩ := names_code
  obtain ⟨ex, fr, H⟩ := out
  refine Ev1.of T6_below Try.func5 hb rfl rfl hr (.inr he) hres ?_
  simp [wrap, resultV, tags, reach_nil, idsL, ids, tagsObjs, ren, strike, putBack, List.flatMap]

end Go.Proofs.Ytacgdhhappedoaa
