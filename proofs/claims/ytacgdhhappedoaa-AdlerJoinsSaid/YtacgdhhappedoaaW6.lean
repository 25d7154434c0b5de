/- AdlerByte: the walk. -/
import Derived.Test.YtacgdhhappedoaaW4
import Derived.Test.YtacgdhhappedoaaW5
namespace Go.Proofs.Ytacgdhhappedoaa
open Go.AM

theorem T6_ro (c t : Nat) (l : List UInt8) (hl : l.length < 9223372036854775807) (H : AM.Heap) : T6 8 [.ro c (.pb l) t] H = some (.int .u32 (sumF l), H) := by
  have h1 : tabF rowsL 8 [.ro c (.pb l) t] H = .none := rfl
  simp [T6, orT, h1, T3, hl]

theorem T6_sl {H : AM.Heap} {o off len g : Nat} {ob : AM.Obj} {l : List UInt8} (ho : live H o g = some ob) (hi : ob.ids = false) (hp : psub ob.p off len = some (.pb l)) (hl : l.length < 9223372036854775807) :
    T6 8 [.sl o off len g] H = some (.int .u32 (sumF l), H) := by
  have h1 : tabF rowsL 8 [.sl o off len g] H = .none := rfl
  simp [T6, orT, h1, T3, ho, hi, hp, hl]

theorem nt4 : ntOf X 4 = 44 := by kernel_rfl
theorem keep4_3 : X.keep 4 3 = some [0, 1, 2, 26] := by kernel_rfl
theorem und3 : und X 3 = .int .i64 := by kernel_rfl

theorem bytes5 : bytesT X 5 = 1 := by kernel_rfl
theorem zero5 : zeroOk X 5 = true := by kernel_rfl
theorem okT22 : okT X 22 = true := by kernel_rfl
theorem isInt22 : isIntT X 22 = false := by kernel_rfl
theorem keep4_5 : X.keep 4 5 = some [0, 1, 2, 7] := by kernel_rfl
theorem keep4_7 : X.keep 4 7 = some [6] := by kernel_rfl
theorem keep4_6 : X.keep 4 6 = some [0, 7] := by kernel_rfl

/-- the byte turned -/
def xv (b : UInt8) (by_ : Int) : Int := IntKind.u8.wrap (((AM.bits .u8 (b.toNat : Int)).toNat ^^^ (AM.bits .u8 by_).toNat : Nat) : Int)

theorem xvd (b : UInt8) (by_ : Int) : IntKind.u8.wrap (((AM.bits .u8 (b.toNat : Int)).toNat ^^^ (AM.bits .u8 by_).toNat : Nat) : Int) = xv b by_ := rfl

theorem bits_u8 {n : Nat} (h : n < 256) : (AM.bits .u8 (n : Int)).toNat = n := by
  show (BitVec.ofInt 8 (n : Int)).toNat = n
  rw [BitVec.toNat_ofInt]
  omega

theorem xv_nat (b : UInt8) {m : Nat} (h : m < 256) : xv b m = ((b.toNat ^^^ m : Nat) : Int) ∧ b.toNat ^^^ m < 256 := by
  have hx : b.toNat ^^^ m < 256 := Nat.xor_lt_two_pow (n := 8) b.toNat_lt h
  refine ⟨?_, hx⟩
  unfold xv
  rw [bits_u8 b.toNat_lt, bits_u8 h, wrap_u8 (by omega) (by omega)]

theorem xv_ne (b : UInt8) {m : Nat} (h : m < 256) (h0 : m ≠ 0) : UInt8.ofNat (xv b m).toNat ≠ b := by
  obtain ⟨h1, h2⟩ := xv_nat b h
  rw [h1, Int.toNat_natCast]
  intro e
  have e2 := congrArg UInt8.toNat e
  rw [UInt8.toNat_ofNat', Nat.mod_eq_of_lt (by simpa using h2)] at e2
  have : b.toNat ^^^ (b.toNat ^^^ m) = b.toNat ^^^ b.toNat := by rw [e2]
  rw [← Nat.xor_assoc, Nat.xor_self, Nat.zero_xor] at this
  exact h0 this

theorem byte_code (c : Nat) (l : List UInt8) (at_ by_ : Int) (h0 : 0 ≤ by_) (h1 : by_ < 256) : ∃ code, Try.f4.body = some code ∧ ∃ H, Run X T6 4 0 code [(0, .ro c (.pb l) 1), (1, .int .i64 at_), (2, .int .u8 by_)] [] ⟨.ret, [(6, .bool true)], H⟩ := by
  refine ⟨_, rfl, ?_⟩
  by_cases hg : 20000 < (l.length : Int) ∨ at_ < 0 ∨ (l.length : Int) ≤ at_ ∨ by_ = 0
  · refine ⟨[], ?_⟩
    refine Run.seq (fr' := [(0, .ro c (.pb l) 1), (1, .int .i64 at_), (2, .int .u8 by_)]) (H' := []) ⟨0, rfl⟩ ?_
    refine Run.seq (fr' := [(0, .ro c (.pb l) 1), (1, .int .i64 at_), (2, .int .u8 by_), (9, .bool false)]) (H' := []) ⟨0, by rfl⟩ ?_
    refine Run.seq_out (Run.seq (fr' := [(0, .ro c (.pb l) 1), (1, .int .i64 at_), (2, .int .u8 by_), (26, .bool true)]) (H' := []) ⟨0, ?_⟩ ?_) (by simp)
    · by_cases a1 : 20000 < (l.length : Int)
      · simp [exec, runOps, dstOk, nt4, wantedV, AM.step, callV, builtinV, lenV, evalT, evalO, evalArgs, ofVal, ofCell, getF, putF, und22, plen, binV, arith, afterRegion, keep4_3, normX, keepF, a1]
      · by_cases a2 : at_ < 0
        · simp [exec, runOps, dstOk, nt4, wantedV, AM.step, callV, builtinV, lenV, evalT, evalO, evalArgs, ofVal, ofCell, getF, putF, und22, plen, binV, arith, afterRegion, keep4_3, normX, keepF, a1, a2]
        · by_cases a3 : (l.length : Int) ≤ at_
          · simp [exec, runOps, dstOk, nt4, wantedV, AM.step, callV, builtinV, lenV, evalT, evalO, evalArgs, ofVal, ofCell, getF, putF, und22, plen, binV, arith, afterRegion, keep4_3, normX, keepF, a1, a2, a3]
          · have a4 : by_ = 0 := by
              rcases hg with h | h | h | h
              · exact absurd h a1
              · exact absurd h a2
              · exact absurd h a3
              · exact h
            simp [exec, runOps, dstOk, nt4, wantedV, AM.step, callV, builtinV, lenV, evalT, evalO, evalArgs, ofVal, ofCell, getF, putF, und22, plen, binV, arith, afterRegion, keep4_3, normX, keepF, a1, a2, a3, a4]
    · exact Run.cond (d := true) rfl ⟨0, rfl⟩
  · simp only [not_or, Int.not_lt, Int.not_le] at hg
    obtain ⟨a1, a2, a3, a4⟩ := hg
    obtain ⟨i, rfl⟩ : ∃ i : Nat, at_ = i := ⟨at_.toNat, by omega⟩
    have hil : i < l.length := by omega
    have n1 : ¬ 20000 < (l.length : Int) := by omega
    have n2 : ¬ (i : Int) < 0 := by omega
    have n3 : ¬ (l.length : Int) ≤ (i : Int) := by omega
    obtain ⟨b, hb⟩ : ∃ b, l[i]? = some b := ⟨l[i], List.getElem?_eq_getElem hil⟩
    refine ⟨[some ⟨.pb (l.set i (UInt8.ofNat (xv b by_).toNat)), 0, .none, 1, true, false, 0⟩], ?_⟩
    refine Run.seq (fr' := [(0, .ro c (.pb l) 1), (1, .int .i64 i), (2, .int .u8 by_)]) (H' := []) ⟨0, rfl⟩ ?_
    refine Run.seq (fr' := [(0, .ro c (.pb l) 1), (1, .int .i64 i), (2, .int .u8 by_), (9, .bool false)]) (H' := []) ⟨0, by rfl⟩ ?_
    refine Run.seq (fr' := [(0, .ro c (.pb l) 1), (1, .int .i64 i), (2, .int .u8 by_), (26, .bool false)]) (H' := []) (Run.seq (fr' := [(0, .ro c (.pb l) 1), (1, .int .i64 i), (2, .int .u8 by_), (26, .bool false)]) (H' := []) ⟨0, ?_⟩ (Run.cond (d := false) rfl ⟨0, rfl⟩)) ?_
    · simp [exec, runOps, dstOk, nt4, wantedV, AM.step, callV, builtinV, lenV, evalT, evalO, evalArgs, ofVal, ofCell, getF, putF, und22, plen, binV, arith, afterRegion, keep4_3, normX, keepF, a4, n1, n2, n3]
    · refine Run.seq (fr' := [(0, .ro c (.pb l) 1), (1, .int .i64 i), (2, .int .u8 by_), (7, .sl 0 0 l.length 0)]) (H' := [some ⟨.pb l, 0, .none, 1, true, false, 0⟩]) ⟨0, ?_⟩ ?_
      · have hbs : buildSliceV X [] 22 0 [] = some (.ro 1 (.pb []) 0, []) := rfl
        have happ : appendV X [] 22 (.ro 1 (.pb []) 0) (.ro c (.pb l) 1) = some (.sl 0 0 l.length 0, [some ⟨.pb l, 0, .none, 1, true, false, 0⟩]) := by
          have hroom : l.length * 1 ≤ 140737488355328 ∧ l.length ≤ 4611686018427387904 := by omega
          simp [appendV, und22, size5, zero5, srcV, payB, plen, roomOk, bytes5, hroom, emptyRow, und5, papp, pesz, ptag]
          omega
        simp [exec, runOps, dstOk, nt4, wantedV, AM.step, callV, builtinV, evalT, evalO, evalArgs, evalParts, ofVal, ofCell, getF, putF, und22, hbs, happ, okT22, isInt22, assignV, afterRegion, keep4_5, normX, keepF]
      · refine Run.seq (fr' := [(0, .ro c (.pb l) 1), (7, .sl 0 0 l.length 0)]) (H' := [some ⟨.pb (l.set i (UInt8.ofNat (xv b by_).toNat)), 0, .none, 1, true, false, 0⟩]) ⟨0, ?_⟩ ?_
        · have hx0 : 0 ≤ xv b by_ ∧ xv b by_ < 256 := by
            obtain ⟨m, rfl⟩ : ∃ m : Nat, by_ = m := ⟨by_.toNat, by omega⟩
            obtain ⟨q1, q2⟩ := xv_nat b (m := m) (by omega)
            rw [q1]
            omega
          have hbi : l[i] = b := (List.getElem?_eq_some_iff.1 hb).2
          simp [exec, runOps, dstOk, nt4, wantedV, AM.step, evalT, evalO, ofVal, ofCell, getF, putF, indexAddrV, loadV, live, und22, und5, size5, okT5, isAgg5, plen, pesz, pget, hil, hbi, byteAV, retag, binV, arith, xvd, storeV, putV, pset, hx0, freezeP, freezeV, ids, tags, joinTags, joinTag, scalar, upd, afterRegion, keep4_6, normX, keepF]
        · have hne : sumF (l.set i (UInt8.ofNat (xv b by_).toNat)) ≠ sumF l := by
            obtain ⟨m, rfl⟩ : ∃ m : Nat, by_ = m := ⟨by_.toNat, by omega⟩
            exact sumF_set hb (xv_ne b (by omega) (by omega))
          have hl1 : (l.set i (UInt8.ofNat (xv b by_).toNat)).length = l.length := by simp
          generalize l.set i (UInt8.ofNat (xv b by_).toNat) = l' at hne hl1 ⊢
          have hs1 : T6 8 [.sl 0 0 l.length 0] [some ⟨.pb l', 0, .none, 1, true, false, 0⟩] = some (.int .u32 (sumF l'), [some ⟨.pb l', 0, .none, 1, true, false, 0⟩]) :=
            T6_sl (ob := ⟨.pb l', 0, .none, 1, true, false, 0⟩) rfl rfl (by
              have : l'.take l.length = l' := List.take_of_length_le (by omega)
              simp [psub, hl1, this]) (by omega)
          have hs2 := fun H => T6_ro c 1 l (by omega) H
          refine Run.seq (fr' := [(6, .bool true)]) (H' := [some ⟨.pb l', 0, .none, 1, true, false, 0⟩]) ⟨0, ?_⟩ ⟨0, rfl⟩
          simp [exec, runOps, dstOk, nt4, wantedV, AM.step, callV, evalT, evalO, evalArgs, ofVal, ofCell, getF, putF, bod8, par8, hs1, hs2, binV, arith, hne, assignV, afterRegion, keep4_7, normX, keepF]

theorem byte_ev (c : Nat) (l : List UInt8) (at_ by_ : Int) (h0 : 0 ≤ by_) (h1 : by_ < 256) : Ev1 X 4 [.ro c (.pb l) 1, .int .i64 at_, .int .u8 by_] [] (.bool true, []) := by
  obtain ⟨code, hb, H, hr⟩ := byte_code c l at_ by_ h0 h1
  refine Ev1.of T6_below Try.func4 hb rfl rfl hr (.inr rfl) rfl ?_
  simp [wrap, resultV, getF, tags, reach_nil, idsL, ids, tagsObjs, ren, strike, putBack, List.flatMap]

end Go.Proofs.Ytacgdhhappedoaa
