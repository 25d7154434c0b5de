/- Walks: the reader of fixed numbers. -/
import Derived.Test.YtmdciglfpedhgaaDoorK0
namespace Go.Proofs.YtmdciglfpedhgaaDoor
open Go.AM
set_option linter.unusedSimpArgs false
set_option linter.unusedVariables false

/-- what is left, and the error -/
abbrev St := List UInt8 × Int

/-- a fixed number off what is left -/
def fx (n : Nat) (s : St) : Nat × St :=
  if s.2 ≠ 0 then (0, s) else if s.1.length < n then (0, s.1, 4) else (leV (s.1.take n), s.1.drop n, 0)

theorem rf_ev {H : AM.Heap} {a : AV} {b : List UInt8} {n : Nat} (h : Byt H a b) (hb : b.length ≤ 90000000) :
    evT X 35 [a, .int .i64 (n : Nat)] H = some (.tup [.int .u64 (rfR b n).1, .int .i64 (rfR b n).2], H) := by
  obtain ⟨c, p, xl, hp, hc, hx'⟩ := args_byt (C := X) (f := 35) (i := 0) rfl h (args_flat (i := 1) (a := .int .i64 (n : Nat)) rfl rfl (args_nil 2))
  obtain ⟨code, hcode, hr⟩ := readFixed_code (evT X) c b n (by omega)
  refine evT_eq (Ev1.toldP (l := [.int .u64 (rfR b n).1, .int .i64 (rfR b n).2]) (evT_below X) Tryd.func35 hcode hx' (by simp [idsL, ids, hp.ids]) (by simp [gtag]) rfl rfl rfl ?_)
  rw [par35, coB hp]
  exact ⟨_, ⟨rfl, rfl⟩, hr⟩

/-- the reader's box -/
def rdO (c t tg : Nat) (s : St) : AM.Obj := ⟨.pc [.ro c (.pb s.1) t, .int .i64 s.2], 0, some 2, 1, false, true, tg⟩

section
variable (c t tg : Nat) (s : St) (n : Nat)

set_option maxRecDepth 100000 in
theorem fixed_code (hc : c = 0 → s.1 = []) (hb : s.1.length ≤ 90000000) (h1 : 1 ≤ n) (h8 : n ≤ 8) : ∃ code, Tryd.f30.body = some code ∧
    Run X (evT X) 30 1 code [(0, .ptr 0 0 0 0), (1, .int .i64 (n : Nat))] [some (rdO c t tg s)] ⟨.ret, [(4, .int .u64 ((fx n s).1 : Nat))], [some (rdO c t tg (fx n s).2)]⟩ := by
  refine ⟨_, rfl, 0, ?_⟩
  obtain ⟨b, e⟩ := s
  simp only at hb
  unfold fx
  by_cases he : e = 0
  · subst he
    rw [if_neg (by simp)]
    have hR := rf_ev (H := [some (rdO c t tg (b, 0))]) (a := .ro c (.pb b) t) (b := b) (n := n) ⟨c, .pb b, .inl rfl, hc, fun t' => ⟨_, rfl⟩⟩ hb
    unfold rfR at hR
    rw [if_neg (by omega)] at hR
    by_cases hl : b.length < n
    · rw [if_pos hl]
      rw [if_pos (by omega)] at hR
      simp only [rdO] at hR
      simp (maxSteps := 2000000) -implicitDefEqProofs [-getElem?_pos, List.getElem?_cons_zero, List.getElem?_cons_succ, exec, runOps, dstOk, wantedV, AM.step, evalT, evalO, evalArgs, evalParts, getF, putF, afterRegion, assignV, boxOf, newBox, hasIdsP, keepF, ofVal, ofCell, plen, pesz, callV, builtinV, lenV, binV, unV, arith, shiftI, loadV, storeV, putV, indexAddrV, live, upd, pget, pset, psetA, pagg, retag, retagP, byteAV, freezeP, freezeV, joinTags, joinTag, tags, ids, scalar, cellsLen, eqV, convV, faV, fvV, shiftBy, shiftRo, rdO, hR]
    · rw [if_neg hl]
      rw [if_neg (by omega), Int.toNat_natCast] at hR
      simp only [rdO] at hR
      have hn0 : (0 : Int) ≤ (n : Int) := by omega
      have hnl : (n : Int) ≤ (b.length : Int) := by omega
      have hsl : sliceV X [some (rdO c t tg (b, 0))] 22 (.ro c (.pb b) t) (some (.int .i64 (n : Nat))) none = some (.ro c (.pb (b.drop n)) t) := by
        have hcc : (if c = 0 then 0 else c) = c := by split <;> omega
        have hle : n + (b.length - n) ≤ b.length := by omega
        have ht : List.take (b.length - n) (b.drop n) = b.drop n := by rw [List.take_of_length_le (by simp)]
        simp [sliceV, bound, plen, pesz, psub, hnl, hcc, hle, ht]
      simp only [rdO] at hsl
      simp (maxSteps := 2000000) -implicitDefEqProofs [-getElem?_pos, List.getElem?_cons_zero, List.getElem?_cons_succ, exec, runOps, dstOk, wantedV, AM.step, evalT, evalO, evalArgs, evalParts, getF, putF, afterRegion, assignV, boxOf, newBox, hasIdsP, keepF, ofVal, ofCell, plen, pesz, callV, builtinV, lenV, binV, unV, arith, shiftI, loadV, storeV, putV, indexAddrV, live, upd, pget, pset, psetA, pagg, retag, retagP, byteAV, freezeP, freezeV, joinTags, joinTag, tags, ids, scalar, cellsLen, eqV, convV, faV, fvV, shiftBy, shiftRo, rdO, hR, hsl]
  · rw [if_pos (by simpa using he)]
    have heb : (e != 0) = true := by simpa using he
    simp (maxSteps := 2000000) -implicitDefEqProofs [-getElem?_pos, List.getElem?_cons_zero, List.getElem?_cons_succ, exec, runOps, dstOk, wantedV, AM.step, evalT, evalO, evalArgs, evalParts, getF, putF, afterRegion, assignV, boxOf, newBox, hasIdsP, keepF, ofVal, ofCell, plen, pesz, callV, builtinV, lenV, binV, unV, arith, shiftI, loadV, storeV, putV, indexAddrV, live, upd, pget, pset, psetA, pagg, retag, retagP, byteAV, freezeP, freezeV, joinTags, joinTag, tags, ids, scalar, cellsLen, eqV, convV, faV, fvV, shiftBy, shiftRo, rdO, he, heb]

/-- the reader's box when all is taken -/
def rdN (tg : Nat) (e : Int) : AM.Obj := ⟨.pc [.ro 0 .pn 0, .int .i64 e], 0, some 2, 1, false, true, tg⟩

set_option maxRecDepth 100000 in
theorem rest_code (hc : c = 0 → s.1 = []) (hb : s.1.length ≤ 90000000) : ∃ code, Tryd.f31.body = some code ∧ ∃ ob, Rw (.pb s.1) 0 ob ∧
    Run X (evT X) 31 1 code [(0, .ptr 0 0 0 0)] [some (rdO c t tg s)] ⟨.ret, [(2, .sl 2 0 s.1.length 0)], [some (rdN tg s.2), some nilB, some ob]⟩ := by
  refine ⟨_, rfl, ?_⟩
  obtain ⟨ob, hw, hC⟩ := clone_ev (H := [some (rdO c t tg s), some nilB]) (a := .ro c (.pb s.1) t) (b := s.1) (Byt.ro (.inl rfl) hc) (by omega)
  refine ⟨ob, hw, 0, ?_⟩
  simp only [rdO] at hC
  simp (maxSteps := 2000000) -implicitDefEqProofs [-getElem?_pos, List.getElem?_cons_zero, List.getElem?_cons_succ, exec, runOps, dstOk, wantedV, AM.step, evalT, evalO, evalArgs, evalParts, getF, putF, afterRegion, assignV, boxOf, newBox, hasIdsP, keepF, ofVal, ofCell, plen, pesz, callV, builtinV, lenV, binV, unV, arith, shiftI, loadV, storeV, putV, indexAddrV, live, upd, pget, pset, psetA, pagg, retag, retagP, byteAV, freezeP, freezeV, joinTags, joinTag, tags, ids, scalar, cellsLen, eqV, convV, faV, fvV, shiftBy, shiftRo, rdO, rdN, assignV, emB, hC]

end

theorem fixed_ev {H : AM.Heap} {o c t tg n : Nat} {N : Int} {s : St} (hN : N = (n : Nat)) (ho : H[o]? = some (some (rdO c t tg s))) (hc : c = 0 → s.1 = []) (hb : s.1.length ≤ 90000000) (h1 : 1 ≤ n) (h8 : n ≤ 8) :
    evT X 30 [.ptr o 0 0 0, .int .i64 N] H = some (.int .u64 ((fx n s).1 : Nat), upd H o (some (rdO c t t (fx n s).2))) := by
  subst hN
  obtain ⟨code, hcode, hr⟩ := fixed_code c 3 3 s n hc hb h1 h8
  have := Ev1.box (C := X) (f := 30) (H := H) (o := o) (g := 0) (ob := rdO c t tg s) (ob1 := rdO c 3 3 (fx n s).2) (xs := [.int .i64 (n : Nat)]) (ys := [.int .i64 (n : Nat)]) (n := 3) (t := t) (rest := [])
    (l := [.int .u64 ((fx n s).1 : Nat)]) (evT_below X) Tryd.func30 hcode rfl ho rfl rfl (args_flat rfl rfl (args_nil 2)) rfl rfl rfl (by simp [gtag]) (by simp [tagsOb, rdO, tags, tagsL, joinTags, joinTag]; omega) hr (.inr rfl) rfl rfl rfl rfl rfl
    (by intro k hk; right; simpa [resultV, tags, tagsOb, rdO, tagsL] using hk) (.inr rfl)
  exact evT_eq (by simpa [rdO, ren, renL, bk, resultV] using this)

theorem rest_ev {H : AM.Heap} {o c t tg : Nat} {s : St} (ho : H[o]? = some (some (rdO c t tg s))) (hc : c = 0 → s.1 = []) (hb : s.1.length ≤ 90000000) :
    ∃ ob, Rw (.pb s.1) 0 ob ∧ evT X 31 [.ptr o 0 0 0] H = some (.sl H.length 0 s.1.length 0, upd H o (some (rdN t s.2)) ++ [some ob]) := by
  obtain ⟨code, hcode, ob, hw, hr⟩ := rest_code c 2 2 s hc hb
  have := Ev1.boxNew (C := X) (f := 31) (H := H) (o := o) (g := 0) (ob := rdO c t tg s) (ob1 := rdN 2 s.2) (xs := []) (ys := []) (n := 2) (t := t) (rest := [some nilB, some ob]) (o1 := 2) (g1 := 0) (ob2 := ob)
    (l := [.sl 2 0 s.1.length 0]) (evT_below X) Tryd.func31 hcode rfl ho rfl rfl (args_nil 1) rfl rfl rfl (by simp [gtag]) (by simp [tagsOb, rdO, tags, tagsL, joinTags, joinTag]; omega) hr (.inr rfl) rfl rfl rfl rfl rfl (by simp [live, hw.g]) (by omega) hw.ids (by rw [hw.p]; rfl) hw.tg
    (by intro k hk; left; simpa [resultV, tags, tagsOb, rdN, tagsL] using hk) (.inr rfl)
  refine ⟨AM.fresh ob, ⟨hw.p, rfl, hw.row, hw.ids, rfl⟩, evT_eq ?_⟩
  simpa [rdN, ren, renL, bk, resultV] using this

end Go.Proofs.YtmdciglfpedhgaaDoor
