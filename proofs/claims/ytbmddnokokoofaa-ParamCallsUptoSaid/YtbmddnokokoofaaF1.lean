/- Walks: the document's reader of fields. -/
import Derived.Test.YtbmddnokokoofaaFD
namespace Go.Proofs.Ytbmddnokokoofaa
open Go.AM
set_option linter.unusedSimpArgs false
set_option linter.unusedVariables false

/-- the fields' box -/
def bxO (p : AV) (c t tg : Nat) (e : Int) : AM.Obj := ⟨.pc [.ro c p t, .int .i64 e], 0, some 2, 1, false, true, tg⟩
/-- the error, when what was read is wrong -/
def wr (bad : Bool) (e : Int) : Int := if e = 0 ∧ bad = true then 5 else e
/-- bytes off what is left -/
def bts (n : Nat) (s : St) : List UInt8 := if s.2 ≠ 0 ∨ s.1.length < n then List.replicate n 0 else s.1.take n

theorem bts_len (n : Nat) (s : St) : (bts n s).length = n := by
  unfold bts
  split
  · simp
  · rename_i h
    simp; omega

theorem leV_zeros (n : Nat) : leV (List.replicate n 0) = 0 := by
  induction n with
  | zero => rfl
  | succ n ih => rw [List.replicate_succ, leV, ih]; rfl

theorem bts_fx (n : Nat) (s : St) : leV (bts n s) = (fx n s).1 := by
  unfold bts fx
  by_cases h1 : s.2 ≠ 0
  · rw [if_pos (.inl h1), if_pos h1, leV_zeros]
  · rw [if_neg h1]
    by_cases h2 : s.1.length < n
    · rw [if_pos (.inr h2), if_pos h2, leV_zeros]
    · rw [if_neg (by simp only [ne_eq, Decidable.not_not] at h1; omega), if_neg h2]

theorem mkB {n : Nat} (hn : n ≤ 1000000) (H : AM.Heap) : makeSliceV X H 22 (.int .i64 (n : Nat)) (.int .i64 (n : Nat)) = some (.sl H.length 0 n 0, H ++ [some ⟨.pb (List.replicate n 0), 0, some n, 1, true, false, 0⟩]) := by
  have hz : ∀ n, zeroRow X 5 n = some (.pb (List.replicate n 0)) := fun n => by simp [zeroRow, cellsAV, scalars, scalar, idsL, ids, tagsL, tags]
  have h0 : (0 : Int) ≤ n := by omega
  have h1 : (n : Int) ≤ 9223372036854775807 := by omega
  have h2 : (n : Int) ≤ 140737488355328 := by omega
  simp [makeSliceV, hz, h0, h1, h2, rowOf]

theorem slTo {c t n : Nat} {b : List UInt8} (hc : c = 0 → b = []) (hn : n ≤ b.length) (H : AM.Heap) : sliceV X H 22 (.ro c (.pb b) t) none (some (.int .i64 (n : Nat))) = some (.ro (if c = 0 then 0 else 2) (.pb (b.take n)) t) := by
  have hnl : (n : Int) ≤ (b.length : Int) := by omega
  simp [sliceV, bound, plen, pesz, psub, hnl, hn]

theorem slFrom {c t n : Nat} {b : List UInt8} (hc : c = 0 → b = []) (hn : n ≤ b.length) (H : AM.Heap) : sliceV X H 22 (.ro c (.pb b) t) (some (.int .i64 (n : Nat))) none = some (.ro c (.pb (b.drop n)) t) := by
  have hcc : (if c = 0 then 0 else c) = c := by split <;> omega
  have hnl : (n : Int) ≤ (b.length : Int) := by omega
  have hle : n + (b.length - n) ≤ b.length := by omega
  have ht : List.take (b.length - n) (b.drop n) = b.drop n := by rw [List.take_of_length_le (by simp)]
  simp [sliceV, bound, plen, pesz, psub, hnl, hcc, hle, ht]

section
variable (c t tg : Nat) (p : AV) (e : Int) (s : St) (n : Nat) (bad : Bool)

set_option maxRecDepth 100000 in
theorem wrong_code : ∃ code, Try.f31.body = some code ∧ ∃ fr,
    Run X (evT X) 31 1 code [(0, .ptr 0 0 0 0), (1, .bool bad)] [some (bxO p c t tg e)] ⟨.normal, fr, [some (bxO p c t tg (wr bad e))]⟩ := by
  refine ⟨_, rfl, ?_⟩
  unfold wr
  by_cases he : e = 0
  · subst he
    cases bad
    · refine ⟨[(0, .ptr 0 0 0 0), (11, .bool false)], 0, ?_⟩
      simp (maxSteps := 2000000) -implicitDefEqProofs [-getElem?_pos, List.getElem?_cons_zero, List.getElem?_cons_succ, go_sem, eqV, plen, loadV, storeV, bxO]
    · refine ⟨[], 0, ?_⟩
      simp (maxSteps := 2000000) -implicitDefEqProofs [-getElem?_pos, List.getElem?_cons_zero, List.getElem?_cons_succ, go_sem, eqV, plen, loadV, storeV, bxO]
  · rw [if_neg (fun h => he h.1)]
    have heb : (e == 0) = false := by simpa using he
    refine ⟨[(0, .ptr 0 0 0 0), (11, .bool false)], 0, ?_⟩
    simp (maxSteps := 2000000) -implicitDefEqProofs [-getElem?_pos, List.getElem?_cons_zero, List.getElem?_cons_succ, go_sem, eqV, plen, loadV, storeV, bxO, heb]

set_option maxRecDepth 100000 in
theorem bytes_code (hc : c = 0 → s.1 = []) (hn : n ≤ 1000000) : ∃ code, Try.f30.body = some code ∧ ∃ ob fr, Rw (.pb (bts n s)) 0 ob ∧ getF fr 4 = .sl 2 0 n 0 ∧
    Run X (evT X) 30 1 code [(0, .ptr 0 0 0 0), (1, .int .i64 (n : Nat))] [some (rdO c t tg s)] ⟨.ret, fr, [some (rdO c t tg (fx n s).2), some nilB, some ob]⟩ := by
  refine ⟨_, rfl, ?_⟩
  obtain ⟨b, e⟩ := s
  unfold bts fx
  simp only
  have n0 : ¬ (n : Int) < 0 := by omega
  by_cases he : e = 0
  · subst he
    by_cases hl : b.length < n
    · have hlI : (b.length : Int) < (n : Int) := by omega
      rw [if_pos (.inr hl), if_neg (by simp), if_pos hl]
      refine ⟨⟨.pb (List.replicate n 0), 0, some n, 1, true, false, 0⟩, [(4, .sl 2 0 n 0)], ⟨rfl, rfl, rfl, rfl, rfl⟩, rfl, 0, ?_⟩
      simp (maxSteps := 2000000) -implicitDefEqProofs [-getElem?_pos, List.getElem?_cons_zero, List.getElem?_cons_succ, go_sem, eqV, plen, loadV, storeV, rdO, hlI, assignV, emB, n0, mkB hn]
    · have hlI : ¬ (b.length : Int) < (n : Int) := by omega
      rw [if_neg (by simp; omega), if_neg (by simp), if_neg hl]
      have hb0 := fun H => bs0 H
      have hA := app_lit (H := [some (rdO c t tg (b, 0)), some nilB]) (m := b.take n) (src := .ro (if c = 0 then 0 else 2) (.pb (b.take n)) t) (srcB (.inl rfl)) (by simp; omega)
      have hs1 := fun H => slTo (t := t) hc (show n ≤ b.length by omega) H
      have hs2 := fun H => slFrom (t := t) hc (show n ≤ b.length by omega) H
      have htl : (b.take n).length = n := by simp; omega
      rw [htl] at hA
      refine ⟨⟨.pb (b.take n), 0, .none, 1, true, false, 0⟩, [(4, .sl 2 0 n 0)], ⟨rfl, rfl, rfl, rfl, rfl⟩, rfl, 0, ?_⟩
      simp only [rdO] at hA
      simp (maxSteps := 2000000) -implicitDefEqProofs [-getElem?_pos, List.getElem?_cons_zero, List.getElem?_cons_succ, go_sem, eqV, plen, loadV, storeV, rdO, hlI, assignV, emB, n0, hb0, hA, hs1, hs2]
  · have heb : (e == 0) = false := by simpa using he
    have heb2 : (e != 0) = true := by simpa using he
    rw [if_pos (.inl he), if_pos he]
    refine ⟨⟨.pb (List.replicate n 0), 0, some n, 1, true, false, 0⟩, [(4, .sl 2 0 n 0)], ⟨rfl, rfl, rfl, rfl, rfl⟩, rfl, 0, ?_⟩
    simp (maxSteps := 2000000) -implicitDefEqProofs [-getElem?_pos, List.getElem?_cons_zero, List.getElem?_cons_succ, go_sem, eqV, plen, loadV, storeV, rdO, he, heb, heb2, assignV, emB, n0, mkB hn]

end

theorem wrong_ev {H : AM.Heap} {o c t tg k : Nat} {p : AV} {l : List UInt8} {e : Int} {bad : Bool} (ho : H[o]? = some (some (bxO p c t tg e))) (hp : PB p l) (hj : joinTags (tagsOb (bxO p c t tg e)) = some k) :
    evT X 31 [.ptr o 0 0 0, .bool bad] H = some (.tup [], upd H o (some (bxO p c k k (wr bad e)))) := by
  obtain ⟨code, hcode, fr, hr⟩ := wrong_code c 3 3 p e bad
  have hpi := hp.ids
  have := Ev1.box (C := X) (f := 31) (H := H) (o := o) (g := 0) (ob := bxO p c t tg e) (ob1 := bxO p c 3 3 (wr bad e)) (xs := [.bool bad]) (ys := [.bool bad]) (n := 3) (t := k) (rest := [])
    (l := []) (evT_below X) Try.func31 hcode rfl ho rfl (by simp [bxO, ids, idsL, hpi]) (args_flat rfl rfl (args_nil 2)) rfl rfl rfl (by simp [gtag]) hj hr (.inl rfl) rfl rfl rfl (by simp [bxO, ids, idsL, hpi]) rfl
    (by intro k hk; right; simpa [resultV, noTups, tags, tagsOb, bxO, tagsL] using hk) (.inr rfl)
  exact evT_eq (by simpa [bxO, ren, renL, bk, resultV, noTups] using this)

theorem bytes_ev {H : AM.Heap} {o c t tg n : Nat} {N : Int} {s : St} (hN : N = (n : Nat)) (ho : H[o]? = some (some (rdO c t tg s))) (hj : joinTags (tagsOb (rdO c t tg s)) = some t) (hc : c = 0 → s.1 = []) (hn : n ≤ 1000000) :
    ∃ ob, Rw (.pb (bts n s)) 0 ob ∧ evT X 30 [.ptr o 0 0 0, .int .i64 N] H = some (.sl H.length 0 n 0, upd H o (some (rdO c t t (fx n s).2)) ++ [some ob]) := by
  subst hN
  obtain ⟨code, hcode, ob, fr, hw, h4, hr⟩ := bytes_code c 3 3 s n hc hn
  have := Ev1.boxNew (C := X) (f := 30) (H := H) (o := o) (g := 0) (ob := rdO c t tg s) (ob1 := rdO c 3 3 (fx n s).2) (xs := [.int .i64 (n : Nat)]) (ys := [.int .i64 (n : Nat)]) (n := 3) (t := t) (rest := [some nilB, some ob]) (o1 := 2) (g1 := 0) (ob2 := ob)
    (l := [.sl 2 0 n 0]) (evT_below X) Try.func30 hcode rfl ho rfl rfl (args_flat rfl rfl (args_nil 2)) rfl rfl rfl (by simp [gtag]) hj hr (.inr rfl) (by show some [getF fr 4] = _; rw [h4]) rfl rfl rfl rfl (by simp [live, hw.g]) (by omega) hw.ids (by rw [hw.p]; rfl) hw.tg
    (by intro k hk; simp [resultV, tags, tagsOb, rdO, tagsL] at hk; omega) (.inr rfl)
  refine ⟨AM.fresh ob, ⟨hw.p, rfl, hw.row, hw.ids, rfl⟩, evT_eq ?_⟩
  simpa [rdO, ren, renL, bk, resultV] using this

theorem rrf_ev {H : AM.Heap} {a : AV} {b : List UInt8} {n : Nat} (h : Byt H a b) (hb : b.length ≤ 90000000) :
    evT X 70 [a, .int .i64 (n : Nat)] H = some (.tup [.int .u64 (rfR b n).1, .int .i64 (rfR b n).2], H) := by
  obtain ⟨c, p, xl, hp, hc, hx'⟩ := args_byt (C := X) (f := 70) (i := 0) rfl h (args_flat (i := 1) (a := .int .i64 (n : Nat)) rfl rfl (args_nil 2))
  obtain ⟨code, hcode, hr⟩ := rreadFixed_code (evT X) c b n (by omega)
  refine evT_eq (Ev1.toldP (l := [.int .u64 (rfR b n).1, .int .i64 (rfR b n).2]) (evT_below X) Try.func70 hcode hx' (by simp [idsL, ids, hp.ids]) (by simp [gtag]) rfl rfl rfl ?_)
  rw [par70, coB hp]
  exact ⟨_, ⟨rfl, rfl⟩, hr⟩

theorem jt (c t : Nat) (s : St) : joinTags (tagsOb (rdO c t t s)) = some t := by
  simp [tagsOb, rdO, tags, tagsL, joinTags, joinTag]; omega

section
variable (c t : Nat) (p : AV) (e : Int) (s : St) (n : Nat)

set_option maxRecDepth 100000 in
theorem byte_code (hc : c = 0 → s.1 = []) : ∃ code, Try.f33.body = some code ∧ ∃ ob,
    Run X (evT X) 33 1 code [(0, .ptr 0 0 0 0)] [some (rdO c t t s)] ⟨.ret, [(2, .int .u8 ((fx 1 s).1 : Nat))], [some (rdO c t t (fx 1 s).2), some ob]⟩ := by
  refine ⟨_, rfl, ?_⟩
  obtain ⟨ob, hw, hB⟩ := bytes_ev (H := [some (rdO c t t s)]) (o := 0) (n := 1) (N := 1) rfl rfl (jt c t s) hc (by omega)
  have h1 := bts_fx 1 s
  have h2 := bts_len 1 s
  generalize bts 1 s = l at *
  match l, h2 with
  | [y], _ =>
    have hy : y.toNat = (fx 1 s).1 := by rw [← h1]; simp [leV]
    rw [← hy]
    have hg := hw.g
    have hp := hw.p
    have hi := hw.ids
    have ht := hw.tg
    refine ⟨ob, 0, ?_⟩
    simp only [rdO] at hB
    simp (maxSteps := 2000000) -implicitDefEqProofs [-getElem?_pos, List.getElem?_cons_zero, List.getElem?_cons_succ, go_sem, eqV, plen, loadV, storeV, rdO, hB, hg, hp, hi, ht]

set_option maxRecDepth 100000 in
theorem fixedF_code (hc : c = 0 → s.1 = []) (h1 : 1 ≤ n) (h8 : n ≤ 8) : ∃ code, Try.f63.body = some code ∧ ∃ ob,
    Run X (evT X) 63 1 code [(0, .ptr 0 0 0 0), (1, .int .i64 (n : Nat))] [some (rdO c t t s)] ⟨.ret, [(4, .int .u64 ((fx n s).1 : Nat))], [some (rdO c t t (fx n s).2), some ob]⟩ := by
  refine ⟨_, rfl, ?_⟩
  obtain ⟨ob, hw, hB⟩ := bytes_ev (H := [some (rdO c t t s)]) (o := 0) (n := n) (N := n) rfl rfl (jt c t s) hc (by omega)
  have q1 := bts_fx n s
  have q2 := bts_len n s
  have hR := rrf_ev (H := [some (rdO c t t (fx n s).2), some ob]) (a := .sl 1 0 n 0) (b := bts n s) (n := n) (by have := Byt.whole (H := [some (rdO c t t (fx n s).2), some ob]) (o := 1) rfl hw; rwa [q2] at this) (by omega)
  unfold rfR at hR
  rw [if_neg (by omega), if_neg (by omega), Int.toNat_natCast, List.take_of_length_le (by omega), q1] at hR
  refine ⟨ob, 0, ?_⟩
  simp only [rdO] at hB hR
  simp (maxSteps := 2000000) -implicitDefEqProofs [-getElem?_pos, List.getElem?_cons_zero, List.getElem?_cons_succ, go_sem, eqV, plen, loadV, storeV, rdO, hB, hR]

/-- all that is left -/
def rsF (s : St) : List UInt8 := if s.2 ≠ 0 then [] else s.1
def rsO (c t : Nat) (s : St) : AM.Obj := if s.2 ≠ 0 then rdO c t t s else rdN t 0

set_option maxRecDepth 100000 in
theorem doneF_code {l : List UInt8} (hp : PB p l) : ∃ code, Try.f29.body = some code ∧
    Run X (evT X) 29 1 code [(0, .ptr 0 0 0 0)] [some (bxO p c t t e)] ⟨.ret, [(2, .int .i64 (wr (decide (0 < l.length)) e))], [some (bxO p c t t (wr (decide (0 < l.length)) e))]⟩ := by
  refine ⟨_, rfl, ?_⟩
  have hW := fun bad => wrong_ev (H := [some (bxO p c t t e)]) (o := 0) (k := t) (bad := bad) rfl hp (by rcases hp with rfl | ⟨rfl, _⟩ <;> (simp [tagsOb, bxO, tags, tagsL, joinTags, joinTag]; omega))
  have hl := hp.plen
  refine ⟨0, ?_⟩
  simp only [bxO] at hW
  by_cases h : 0 < l.length
  · have hi : (0 : Int) < (l.length : Int) := by omega
    simp (maxSteps := 2000000) -implicitDefEqProofs [-getElem?_pos, List.getElem?_cons_zero, List.getElem?_cons_succ, go_sem, eqV, plen, loadV, storeV, bxO, hW, -plen, hl, h, hi]
  · have hi : ¬ (0 : Int) < (l.length : Int) := by omega
    simp (maxSteps := 2000000) -implicitDefEqProofs [-getElem?_pos, List.getElem?_cons_zero, List.getElem?_cons_succ, go_sem, eqV, plen, loadV, storeV, bxO, hW, -plen, hl, h, hi]

end

theorem byteF_ev {H : AM.Heap} {o c t tg : Nat} {s : St} (ho : H[o]? = some (some (rdO c t tg s))) (hj : joinTags (tagsOb (rdO c t tg s)) = some t) (hc : c = 0 → s.1 = []) :
    evT X 33 [.ptr o 0 0 0] H = some (.int .u8 ((fx 1 s).1 : Nat), upd H o (some (rdO c t t (fx 1 s).2))) := by
  obtain ⟨code, hcode, ob, hr⟩ := byte_code c 2 s hc
  have := Ev1.box (C := X) (f := 33) (H := H) (o := o) (g := 0) (ob := rdO c t tg s) (ob1 := rdO c 2 2 (fx 1 s).2) (xs := []) (ys := []) (n := 2) (t := t) (rest := [some ob])
    (l := [.int .u8 ((fx 1 s).1 : Nat)]) (evT_below X) Try.func33 hcode rfl ho rfl rfl (args_nil 1) rfl rfl rfl (by simp [gtag]) hj hr (.inr rfl) rfl rfl rfl rfl rfl
    (by intro k hk; right; simpa [resultV, tags, tagsOb, rdO, tagsL] using hk) (.inr rfl)
  exact evT_eq (by simpa [rdO, ren, renL, bk, resultV] using this)

theorem fixedF_ev {H : AM.Heap} {o c t tg n : Nat} {N : Int} {s : St} (hN : N = (n : Nat)) (ho : H[o]? = some (some (rdO c t tg s))) (hj : joinTags (tagsOb (rdO c t tg s)) = some t) (hc : c = 0 → s.1 = []) (h1 : 1 ≤ n) (h8 : n ≤ 8) :
    evT X 63 [.ptr o 0 0 0, .int .i64 N] H = some (.int .u64 ((fx n s).1 : Nat), upd H o (some (rdO c t t (fx n s).2))) := by
  subst hN
  obtain ⟨code, hcode, ob, hr⟩ := fixedF_code c 3 s n hc h1 h8
  have := Ev1.box (C := X) (f := 63) (H := H) (o := o) (g := 0) (ob := rdO c t tg s) (ob1 := rdO c 3 3 (fx n s).2) (xs := [.int .i64 (n : Nat)]) (ys := [.int .i64 (n : Nat)]) (n := 3) (t := t) (rest := [some ob])
    (l := [.int .u64 ((fx n s).1 : Nat)]) (evT_below X) Try.func63 hcode rfl ho rfl rfl (args_flat rfl rfl (args_nil 2)) rfl rfl rfl (by simp [gtag]) hj hr (.inr rfl) rfl rfl rfl rfl rfl
    (by intro k hk; right; simpa [resultV, tags, tagsOb, rdO, tagsL] using hk) (.inr rfl)
  exact evT_eq (by simpa [rdO, ren, renL, bk, resultV] using this)

theorem doneF_ev {H : AM.Heap} {o c t tg k : Nat} {p : AV} {l : List UInt8} {e : Int} (ho : H[o]? = some (some (bxO p c t tg e))) (hp : PB p l) (hj : joinTags (tagsOb (bxO p c t tg e)) = some k) :
    evT X 29 [.ptr o 0 0 0] H = some (.int .i64 (wr (decide (0 < l.length)) e), upd H o (some (bxO p c k k (wr (decide (0 < l.length)) e)))) := by
  obtain ⟨code, hcode, hr⟩ := doneF_code c 2 p e hp
  have hpi := hp.ids
  generalize wr (decide (0 < l.length)) e = e2 at *
  have := Ev1.box (C := X) (f := 29) (H := H) (o := o) (g := 0) (ob := bxO p c t tg e) (ob1 := bxO p c 2 2 e2) (xs := []) (ys := []) (n := 2) (t := k) (rest := [])
    (l := [.int .i64 e2]) (evT_below X) Try.func29 hcode rfl ho rfl (by simp [bxO, ids, idsL, hpi]) (args_nil 1) rfl rfl rfl (by simp [gtag]) hj hr (.inr rfl) rfl rfl rfl (by simp [bxO, ids, idsL, hpi]) rfl
    (by intro k hk; right; simpa [resultV, noTups, tags, tagsOb, bxO, tagsL] using hk) (.inr rfl)
  exact evT_eq (by simpa [bxO, ren, renL, bk, resultV, noTups] using this)

end Go.Proofs.Ytbmddnokokoofaa
