/- AdlerWindow: the walk. -/
import Derived.Test.YtacgdhhappedoaaW9
namespace Go.Proofs.Ytacgdhhappedoaa
open Go.AM

def T11 : Cf := fun f args H => match f, args with
  | 11, [.int .u32 s, .int .u8 o, .int .u8 i, .int .i64 n] => if 1 ≤ n ∧ fineS s = true then some (.tup [.int .u32 (join64 (rolL s o i) (rolH s o i n)), .int .i64 0], H) else .none
  | _, _ => .none

def T9 : Cf := orT T11 T6

theorem T9_below : Below X T9 := by
  refine orT_below (fun f args H r h => ?_) T6_below
  unfold T11 at h
  split at h
  · rename_i s o i n
    split at h
    · rename_i hc
      rw [← Option.some.inj h]
      have := Ev1.frame (rolled_ev s o i n hc.1 hc.2) rfl H
      simpa [shiftV, shiftH, ren, renL] using this
    · cases h
  · cases h

theorem T9_lives (H : AM.Heap) : T9 7 [] H = some (.bool true, H) := by simp [T9, orT, T11, T6_lives]

theorem T9_ro (c t : Nat) (l : List UInt8) (hl : l.length < 9223372036854775807) (H : AM.Heap) : T9 8 [.ro c (.pb l) t] H = some (.int .u32 (sumF l), H) := by
  have := T6_ro c t l hl H
  simp [T9, orT, T11, this]

theorem T9_roll {l : List UInt8} {n : Nat} {o b : UInt8} {r : List UInt8} (hw : l = o :: r) (hn : n = r.length + 1) (hn2 : n < 65521) (H : AM.Heap) :
    T9 11 [.int .u32 (sumF l), .int .u8 (o.toNat : Int), .int .u8 (b.toNat : Int), .int .i64 (n : Int)] H = some (.tup [.int .u32 (sumF (r ++ [b])), .int .i64 0], H) := by
  subst hw; subst hn
  have hr := rolled_sum o b r hn2
  have hc : (1 : Int) ≤ ((r.length + 1 : Nat) : Int) ∧ fineS (sumF (o :: r)) = true := ⟨by omega, fine_sum _⟩
  simp only [T9, orT, T11, if_pos hc, hr]

theorem nt6 : ntOf X 6 = 68 := by kernel_rfl
theorem keep6_3 : X.keep 6 3 = some [0, 1, 23] := by kernel_rfl
theorem keep6_5 : X.keep 6 5 = some [0, 1, 5] := by kernel_rfl
theorem keep6_7 : X.keep 6 7 = some [0, 1, 5, 6, 33] := by kernel_rfl
theorem keep6_9 : X.keep 6 9 = some [0, 1, 6, 7, 8] := by kernel_rfl
theorem keep6_10 : X.keep 6 10 = some [0, 1, 6, 7, 66] := by kernel_rfl
theorem drX (f i : Nat) : X.dr f i = true := rfl
theorem dyX (f i : Nat) : X.dy f i = false := rfl
theorem bod11 : bodied X 11 = true := by kernel_rfl
theorem par11 : paramsOf X 11 = [24, 5, 5, 3] := by kernel_rfl

def win (l : List UInt8) (n i : Nat) : List UInt8 := (l.drop i).take n

theorem win_step {l : List UInt8} {n i : Nat} {o b : UInt8} (hn : 1 ≤ n) (ho : l[i]? = some o) (hb : l[i + n]? = some b) : ∃ r, win l n i = o :: r ∧ win l n (i + 1) = r ++ [b] ∧ n = r.length + 1 := by
  obtain ⟨k, rfl⟩ : ∃ k, n = k + 1 := ⟨n - 1, by omega⟩
  have hil := (List.getElem?_eq_some_iff.1 ho)
  have hbl := (List.getElem?_eq_some_iff.1 hb)
  obtain ⟨h1, h2⟩ := hil
  obtain ⟨h3, h4⟩ := hbl
  refine ⟨(l.drop (i + 1)).take k, ?_, ?_, by simp; omega⟩
  · unfold win
    rw [List.drop_eq_getElem_cons h1, h2, List.take_succ_cons]
  · unfold win
    rw [List.take_add_one, List.getElem?_drop, show i + 1 + k = i + (k + 1) by omega, hb]
    rfl

set_option maxRecDepth 100000 in
theorem window_code (c : Nat) (l : List UInt8) (n_ : Int) : ∃ code, Try.f6.body = some code ∧ Run X T9 6 0 code [(0, .ro c (.pb l) 1), (1, .int .i64 n_)] [] ⟨.ret, [(4, .bool true)], []⟩ := by
  refine ⟨_, rfl, ?_⟩
  by_cases hg : 300 < (l.length : Int) ∨ n_ < 1 ∨ (l.length : Int) < n_
  · refine Run.seq (fr' := [(0, .ro c (.pb l) 1), (1, .int .i64 n_)]) (H' := []) ⟨0, rfl⟩ ?_
    refine Run.seq (fr' := [(0, .ro c (.pb l) 1), (1, .int .i64 n_), (10, .bool false)]) (H' := []) ⟨0, by rfl⟩ ?_
    refine Run.seq_out (Run.seq (fr' := [(0, .ro c (.pb l) 1), (1, .int .i64 n_), (23, .bool true)]) (H' := []) ⟨0, ?_⟩ ?_) (by simp)
    · by_cases a1 : 300 < (l.length : Int)
      · simp [exec, runOps, dstOk, nt6, wantedV, AM.step, callV, builtinV, lenV, evalT, evalO, evalArgs, ofVal, ofCell, getF, putF, und22, plen, binV, arith, afterRegion, keep6_3, normX, keepF, a1]
      · by_cases a2 : n_ < 1
        · simp [exec, runOps, dstOk, nt6, wantedV, AM.step, callV, builtinV, lenV, evalT, evalO, evalArgs, ofVal, ofCell, getF, putF, und22, plen, binV, arith, afterRegion, keep6_3, normX, keepF, a1, a2]
        · have a3 : (l.length : Int) < n_ := by
            rcases hg with h | h | h
            · exact absurd h a1
            · exact absurd h a2
            · exact h
          simp [exec, runOps, dstOk, nt6, wantedV, AM.step, callV, builtinV, lenV, evalT, evalO, evalArgs, ofVal, ofCell, getF, putF, und22, plen, binV, arith, afterRegion, keep6_3, normX, keepF, a1, a2, a3]
    · exact Run.cond (d := true) rfl ⟨0, rfl⟩
  · simp only [not_or, Int.not_lt] at hg
    obtain ⟨a1, a2, a3⟩ := hg
    obtain ⟨n, rfl⟩ : ∃ n : Nat, n_ = n := ⟨n_.toNat, by omega⟩
    have n1 : ¬ 300 < (l.length : Int) := by omega
    have n2 : ¬ (n : Int) < 1 := by omega
    have n3 : ¬ (l.length : Int) < (n : Int) := by omega
    refine Run.seq (fr' := [(0, .ro c (.pb l) 1), (1, .int .i64 n)]) (H' := []) ⟨0, rfl⟩ ?_
    refine Run.seq (fr' := [(0, .ro c (.pb l) 1), (1, .int .i64 n), (10, .bool false)]) (H' := []) ⟨0, by rfl⟩ ?_
    refine Run.seq (fr' := [(0, .ro c (.pb l) 1), (1, .int .i64 n), (23, .bool false)]) (H' := []) (Run.seq (fr' := [(0, .ro c (.pb l) 1), (1, .int .i64 n), (23, .bool false)]) (H' := []) ⟨0, ?_⟩ (Run.cond (d := false) rfl ⟨0, rfl⟩)) ?_
    · simp [exec, runOps, dstOk, nt6, wantedV, AM.step, callV, builtinV, lenV, evalT, evalO, evalArgs, ofVal, ofCell, getF, putF, und22, plen, binV, arith, afterRegion, keep6_3, normX, keepF, n1, n2, n3]
    · refine Run.seq (fr' := [(0, .ro c (.pb l) 1), (1, .int .i64 n), (5, .int .u32 (sumF (win l n 0)))]) (H' := []) ⟨0, ?_⟩ ?_
      · have hs := fun c' => T9_ro c' 1 (win l n 0) (by simp [win]; omega) []
        have hnl : n ≤ l.length := by omega
        have hw : l.take n = win l n 0 := by simp [win]
        simp [exec, runOps, dstOk, nt6, wantedV, AM.step, callV, evalT, evalO, evalArgs, ofVal, ofCell, getF, putF, sliceV, und22, size5, plen, pesz, bound, psub, hnl, hw, hs, bod8, par8, assignV, afterRegion, keep6_5, normX, keepF]
      · have hnl : n ≤ l.length := by omega
        refine Run.seq (fr' := [(0, .ro c (.pb l) 1), (1, .int .i64 n), (5, .int .u32 (sumF (win l n (l.length - n)))), (6, .int .i64 (l.length - n : Nat)), (33, .bool false)]) (H' := []) ?_ ?_
        · refine Run.seq (fr' := [(0, .ro c (.pb l) 1), (1, .int .i64 n), (5, .int .u32 (sumF (win l n 0))), (6, .int .i64 (0 : Nat))]) (H' := []) ⟨0, rfl⟩ ?_
          refine Run.block_exit ?_
          refine Run.loop_rule (σ := Nat) (fun i => i + n ≤ l.length) (fun i => [(0, .ro c (.pb l) 1), (1, .int .i64 n), (5, .int .u32 (sumF (win l n i))), (6, .int .i64 (i : Nat))]) (fun _ => [])
            (fun _ => ⟨.exit 0, [(0, .ro c (.pb l) 1), (1, .int .i64 n), (5, .int .u32 (sumF (win l n (l.length - n)))), (6, .int .i64 (l.length - n : Nat)), (33, .bool false)], []⟩) (fun i => l.length - i) ?_ 0 (by omega)
          intro i hi
          simp only at hi ⊢
          have hw : IntKind.i64.wrap ((i : Int) + (n : Int)) = (i : Int) + n := wrap_i64 (by omega) (by omega)
          by_cases h : i + n = l.length
          · right
            have hii : l.length - n = i := by omega
            rw [hii]
            have hd : ¬ ((i : Int) + n < l.length) := by omega
            refine ⟨Run.seq_out (Run.seq (fr' := [(0, .ro c (.pb l) 1), (1, .int .i64 n), (5, .int .u32 (sumF (win l n i))), (6, .int .i64 (i : Nat)), (33, .bool false)]) (H' := []) ⟨0, ?_⟩ (Run.cond (d := false) rfl ⟨0, rfl⟩)) (by simp), by simp⟩
            simp [exec, runOps, dstOk, nt6, wantedV, AM.step, callV, builtinV, lenV, evalT, evalO, evalArgs, getF, putF, und22, plen, binV, arith, hw, hd, afterRegion, keep6_7, normX, keepF]
          · left
            have hlt : i + n < l.length := by omega
            have hd : (i : Int) + n < l.length := by omega
            obtain ⟨o, ho⟩ : ∃ o, l[i]? = some o := ⟨l[i], List.getElem?_eq_getElem (by omega)⟩
            obtain ⟨b, hb⟩ : ∃ b, l[i + n]? = some b := ⟨l[i + n], List.getElem?_eq_getElem hlt⟩
            obtain ⟨r, w1, w2, w3⟩ := win_step (by omega) ho hb
            have hroll := T9_roll (b := b) w1 w3 (by omega) []
            rw [← w2] at hroll
            have hoi : l[i] = o := (List.getElem?_eq_some_iff.1 ho).2
            have hbi : l[i + n] = b := (List.getElem?_eq_some_iff.1 hb).2
            have hil : i < l.length := by omega
            have hil' : (i : Int) < l.length := by omega
            have hw1 : IntKind.i64.wrap ((i : Int) + 1) = (i : Int) + 1 := wrap_i64 (by omega) (by omega)
            have hw2 : IntKind.i64.wrap ((i : Int) + 1 + (n : Int)) = (i : Int) + 1 + n := wrap_i64 (by omega) (by omega)
            have hp0 : (0 : Int) ≤ (i : Int) + n := by omega
            have hp1 : ((i : Int) + n).toNat = i + n := by omega
            have hp2 : (0 : Int) ≤ (i : Int) + 1 := by omega
            have hp3 : ((i : Int) + 1).toNat = i + 1 := by omega
            have hp4 : (0 : Int) ≤ (i : Int) + 1 + n := by omega
            have hp5 : ((i : Int) + 1 + n).toNat = i + 1 + n := by omega
            have hp6 : (i : Int) + 1 + n ≤ l.length := by omega
            have hp7 : (i : Int) + 1 ≤ (i : Int) + 1 + n := by omega
            have hp8 : i + 1 + n - (i + 1) = n := by omega
            have hp9 : i + 1 + n ≤ l.length := by omega
            have hs := fun c' => T9_ro c' 1 (win l n (i + 1)) (by simp [win]; omega) []
            have hwin : (l.drop (i + 1)).take n = win l n (i + 1) := rfl
            refine ⟨i + 1, by omega, ?_, trivial, by omega⟩
            refine Run.seq (fr' := [(0, .ro c (.pb l) 1), (1, .int .i64 n), (5, .int .u32 (sumF (win l n i))), (6, .int .i64 (i : Nat)), (33, .bool true)]) (H' := []) (Run.seq (fr' := [(0, .ro c (.pb l) 1), (1, .int .i64 n), (5, .int .u32 (sumF (win l n i))), (6, .int .i64 (i : Nat)), (33, .bool true)]) (H' := []) ⟨0, ?_⟩ (Run.cond (d := true) rfl ⟨0, rfl⟩)) ?_
            · simp [exec, runOps, dstOk, nt6, wantedV, AM.step, callV, builtinV, lenV, evalT, evalO, evalArgs, getF, putF, und22, plen, binV, arith, hw, hd, afterRegion, keep6_7, normX, keepF]
            · refine Run.seq (fr' := [(0, .ro c (.pb l) 1), (1, .int .i64 n), (5, .int .u32 (sumF (win l n (i + 1)))), (6, .int .i64 (i : Nat))]) (H' := []) (Run.block ?_ (by simp)) ?_
              · refine Run.seq (fr' := [(0, .ro c (.pb l) 1), (1, .int .i64 n), (6, .int .i64 (i : Nat)), (7, .int .u32 (sumF (win l n (i + 1)))), (8, .int .i64 0)]) (H' := []) ⟨0, ?_⟩ ?_
                · simp [exec, runOps, dstOk, nt6, wantedV, AM.step, callV, evalT, evalO, evalArgs, getF, putF, indexAddrV, loadV, und22, und5, size5, okT5, isAgg5, plen, pesz, pget, hw, hd, hil, hil', hoi, hbi, hlt, byteAV, retag, binV, arith, bod11, par11, hroll, assignV, afterRegion, keep6_9, normX, keepF, dyX, drX, hp0, hp1]
                · refine Run.seq (fr' := [(0, .ro c (.pb l) 1), (1, .int .i64 n), (6, .int .i64 (i : Nat)), (7, .int .u32 (sumF (win l n (i + 1)))), (66, .bool false)]) (H' := []) (Run.seq (fr' := [(0, .ro c (.pb l) 1), (1, .int .i64 n), (6, .int .i64 (i : Nat)), (7, .int .u32 (sumF (win l n (i + 1)))), (66, .bool false)]) (H' := []) ⟨0, ?_⟩ (Run.cond (d := false) rfl ⟨0, rfl⟩)) ⟨0, rfl⟩
                  simp [exec, runOps, dstOk, nt6, wantedV, AM.step, callV, evalT, evalO, evalArgs, ofVal, ofCell, getF, putF, sliceV, und22, size5, plen, pesz, bound, psub, hw1, hw2, hp2, hp3, hp4, hp5, hp6, hp7, hp8, hp9, hwin, hs, bod8, par8, binV, arith, afterRegion, keep6_10, normX, keepF]
              · rw [show ((i + 1 : Nat) : Int) = IntKind.i64.wrap ((i : Int) + 1) by rw [hw1]; simp]
                exact ⟨0, rfl⟩
        · exact ⟨0, rfl⟩

theorem window_ev (c : Nat) (l : List UInt8) (n : Int) : Ev1 X 6 [.ro c (.pb l) 1, .int .i64 n] [] (.bool true, []) := by
  obtain ⟨code, hb, hr⟩ := window_code c l n
  exact Ev1.of T9_below Try.func6 hb rfl rfl hr (.inr rfl) rfl rfl

end Go.Proofs.Ytacgdhhappedoaa
