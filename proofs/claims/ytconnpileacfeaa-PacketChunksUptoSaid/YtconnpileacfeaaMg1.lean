/- F3 to Q9: texts of this claim, one behind the other; what each shows stands at its head. -/
import Derived.Test.YtconnpileacfeaaAm4
import Derived.Test.YtconnpileacfeaaMg0
/- Walks: Own and Kept. -/
namespace Go.Proofs.Ytconnpileacfeaa
open Go.AM
set_option linter.unusedSimpArgs false
set_option linter.unusedVariables false

def e8 : List UInt8 := [165, 165, 165, 165, 165, 165, 165, 165]

theorem bs8 (H : AM.Heap) : buildSliceV X H 22 8 [(0, .int .u8 165), (1, .int .u8 165), (2, .int .u8 165), (3, .int .u8 165), (4, .int .u8 165), (5, .int .u8 165), (6, .int .u8 165), (7, .int .u8 165)] = some (.ro 1 (.pb e8) 0, H) := by kernel_rfl

theorem mk0 {n : Nat} (hn : n ≤ 1000000) (H : AM.Heap) : makeSliceV X H 22 (.int .i64 0) (.int .i64 (n : Nat)) = some (.sl H.length 0 0 0, H ++ [some ⟨.pb [], 0, some n, 1, true, false, 0⟩]) := by
  have hz : ∀ n, zeroRow X 5 n = some (.pb (List.replicate n 0)) := fun n => by simp [zeroRow, cellsAV, scalars, scalar, idsL, ids, tagsL, tags]
  have h0 : (0 : Int) ≤ n := by omega
  have h1 : (n : Int) ≤ 9223372036854775807 := by omega
  have h2 : (n : Int) ≤ 140737488355328 := by omega
  simp [makeSliceV, hz, h0, h1, h2, rowOf]

theorem pieceF {O : Option Code} {P : Code → Prop} (h : ∃ code, O = some code ∧ P code) (code' : Code) (h' : O = some code') : P code' := by
  obtain ⟨c, h1, h2⟩ := h
  rw [h'] at h1
  exact (Option.some.inj h1) ▸ h2

noncomputable def ownO : Option Code := ((Try.f9.body).bind cR).bind cL

set_option maxRecDepth 100000 in
theorem own_r1 {c n8 : Nat} {b E : List UInt8} {ob0 ob1 ob2 : AM.Obj} (w8 : IntKind.i64.wrap ((b.length : Int) + 8) = (n8 : Nat))
    (hM : makeSliceV X [some nilB] 22 (.int .i64 0) (.int .i64 (n8 : Nat)) = some (.sl 1 0 0 0, [some nilB, some ob0]))
    (hA1 : appendV X [some nilB, some ob0] 22 (.sl 1 0 0 0) (.ro c (.pb b) 1) = some (.sl 1 0 b.length 1, [some nilB, some ob1]))
    (hb8 : ∀ H, buildSliceV X H 22 8 [(0, .int .u8 165), (1, .int .u8 165), (2, .int .u8 165), (3, .int .u8 165), (4, .int .u8 165), (5, .int .u8 165), (6, .int .u8 165), (7, .int .u8 165)] = some (.ro 1 (.pb E) 0, H))
    (hA2 : appendV X [some nilB, some ob1] 22 (.sl 1 0 b.length 1) (.ro 1 (.pb E) 0) = some (.sl 1 0 n8 2, [some nilB, some ob2]))
    (hS2 : sliceV X [some nilB, some ob2] 22 (.sl 1 0 n8 2) none (some (.int .i64 (b.length : Nat))) = some (.sl 1 0 b.length 2)) :
    ∃ code, ownO = some code ∧ Run X (evT X) 9 0 code [(0, .ro c (.pb b) 1)] [some nilB] ⟨.normal, [(2, .sl 1 0 b.length 2)], [some nilB, some ob2]⟩ := by
  refine ⟨_, rfl, 0, ?_⟩
  simp (maxSteps := 2000000) -implicitDefEqProofs [-getElem?_pos, List.getElem?_cons_zero, List.getElem?_cons_succ, go_sem, eqV, plen, loadV, storeV, assignV, w8, hM, hA1, hA2, hb8, hS2]

section
variable (c : Nat) (b : List UInt8)

set_option maxRecDepth 100000 in
theorem own_code (hc : c = 0 → b = []) (hb : b.length ≤ 900000) : ∃ code, Try.f9.body = some code ∧
    Tells (Rets fun fr H => ∃ o g ob, getF fr 2 = .sl o 0 b.length g ∧ H[o]? = some (some ob) ∧ Rw (.pb (b ++ e8)) g ob ∧ ob.cap = some (b.length + 8)) X (evT X) 9 0 code [(0, .ro c (.pb b) 1)] [] := by
  refine ⟨_, rfl, ?_⟩
  have w8 : IntKind.i64.wrap ((b.length : Int) + 8) = ((b.length + 8 : Nat) : Int) := by rw [wrap_i64 (by omega) (by omega)]; omega
  have hM := mk0 (n := b.length + 8) (by omega) [some nilB]
  have hw0 : Rw (.pb []) 0 ⟨.pb [], 0, some (b.length + 8), 1, true, false, 0⟩ := ⟨rfl, rfl, rfl, rfl, rfl⟩
  obtain ⟨ob1, hw1, hk1, hA1⟩ := app_rwc (C := X) (T := 22) (e := 5) (by simp) (und5) (by simp) (by simp) (by simp) (H := [some nilB, some ⟨.pb [], 0, some (b.length + 8), 1, true, false, 0⟩]) (o := 1) (g := 0) (k := b.length + 8) (l := []) (m := b) (src := .ro c (.pb b) 1) rfl hw0 rfl (by simp) (srcB (.inl rfl)) (by simp; omega)
  rw [List.nil_append] at hw1
  rw [List.length_nil, Nat.zero_add] at hA1
  obtain ⟨ob2, hw2, hk2, hA2⟩ := app_rwc (C := X) (T := 22) (e := 5) (by simp) (und5) (by simp) (by simp) (by simp) (H := [some nilB, some ob1]) (o := 1) (g := 1) (k := b.length + 8) (l := b) (m := e8) (src := .ro 1 (.pb e8) 0) rfl hw1 hk1 (by simp [e8]) (.inl rfl) (by simp [e8]; omega)
  have hPl : plen (.pb (b ++ e8)) = b.length + 8 := by simp [plen, e8]
  have hS2 : sliceV X [some nilB, some ob2] 22 (.sl 1 0 (b.length + 8) 2) none (some (.int .i64 (b.length : Nat))) = some (.sl 1 0 b.length 2) := by
    have hg := hw2.g
    have hp := hw2.p
    have hle : (b.length : Int) ≤ (b.length : Int) + 8 := by omega
    simp [sliceV, bound, live, hg, hp, hPl, pesz, hle]
  apply Tells.seq (fr' := [(0, .ro c (.pb b) 1)]) (H' := [some nilB])
  · (refine ⟨0, ?_⟩; simp (maxSteps := 2000000) -implicitDefEqProofs [-getElem?_pos, List.getElem?_cons_zero, List.getElem?_cons_succ, go_sem, eqV, plen, loadV, storeV, assignV, emB])
  refine Tells.seq (pieceF (own_r1 w8 hM hA1 bs8 hA2 hS2) _ rfl) (Tells.of (o := ⟨.ret, [(2, .sl 1 0 b.length 2)], [some nilB, some ob2]⟩) ⟨0, rfl⟩ ⟨rfl, 1, 2, ob2, rfl, rfl, hw2, hk2⟩)

/-- an own copy, its rows of eight behind it -/
structure OwnB (b : List UInt8) (ob : AM.Obj) : Prop where
  rw : Rw (.pb (b ++ e8)) 0 ob
  cap : ob.cap = some (b.length + 8)

def kpFr (c t : Nat) (b : List UInt8) (i : Nat) : AM.Frame := [(5, .sl 0 b.length 8 0), (6, .int .i64 (i : Nat))]

set_option maxRecDepth 100000 in
theorem kept_code (ob : AM.Obj) (hp : ob.p = .pb (b ++ e8)) (hg : ob.g = 0) (hid : ob.ids = false) (hk : ob.cap = some (b.length + 8)) (hc : c = 0 → b = []) (hb : b.length ≤ 900000) : ∃ code, Try.f13.body = some code ∧
    Tells (Rets fun fr H => getF fr 4 = .bool true ∧ H = [some ob]) X (evT X) 13 1 code [(0, .sl 0 0 b.length 0), (1, .ro c (.pb b) 2)] [some ob] := by
  refine ⟨_, rfl, ?_⟩
  have w8 : IntKind.i64.wrap ((b.length : Int) + 8) = (b.length : Int) + 8 := by rw [wrap_i64 (by omega) (by omega)]
  have hPl : plen (.pb (b ++ e8)) = b.length + 8 := by simp [plen, e8]
  have hS := sameB_ev (H := [some ob]) (a := .sl 0 0 b.length 0) (a2 := .ro c (.pb b) 2) (Byt.part (l := b) rfl hg hp hid (by simp) (by simp)) (Byt.ro (.inl rfl) hc)
  rw [beq_self_eq_true] at hS
  have hC : capV X [some ob] 22 (.sl 0 0 b.length 0) = some ((b.length : Int) + 8) := by simp [capV, live, hg, hk]
  have hS1 : sliceV X [some ob] 22 (.sl 0 0 b.length 0) none (some (.int .i64 ((b.length : Int) + 8))) = some (.sl 0 0 (b.length + 8) 0) := by
    have h1 : (0 : Int) ≤ (b.length : Int) + 8 := by omega
    have h2 : ((b.length : Int) + 8).toNat = b.length + 8 := by omega
    simp [sliceV, bound, live, hg, hp, hPl, pesz, h1, h2]
  have hS2 : sliceV X [some ob] 22 (.sl 0 0 (b.length + 8) 0) (some (.int .i64 (b.length : Nat))) none = some (.sl 0 b.length 8 0) := by
    have hle : (b.length : Int) ≤ (b.length : Int) + 8 := by omega
    simp [sliceV, bound, live, hg, hp, hPl, pesz, hle]
  apply Tells.seq (fr' := [(0, .sl 0 0 b.length 0), (1, .ro c (.pb b) 2)]) (H' := [some ob])
  · (refine ⟨0, ?_⟩; simp (maxSteps := 2000000) -implicitDefEqProofs [-getElem?_pos, List.getElem?_cons_zero, List.getElem?_cons_succ, go_sem, eqV, plen, loadV, storeV])
  apply Tells.seq (fr' := [(0, .sl 0 0 b.length 0), (1, .ro c (.pb b) 2), (18, .bool false)]) (H' := [some ob])
  · (refine ⟨0, ?_⟩; simp (maxSteps := 2000000) -implicitDefEqProofs [-getElem?_pos, List.getElem?_cons_zero, List.getElem?_cons_succ, go_sem, eqV, plen, loadV, storeV, hS, hC, w8])
  apply Tells.seq (fr' := [(5, .sl 0 b.length 8 0)]) (H' := [some ob])
  · (refine ⟨0, ?_⟩; simp (maxSteps := 2000000) -implicitDefEqProofs [-getElem?_pos, List.getElem?_cons_zero, List.getElem?_cons_succ, go_sem, eqV, plen, loadV, storeV, hS1, hS2, w8])
  apply Tells.andThen (P := fun fr H => fr = kpFr c 2 b 8 ++ [(33, .bool false)] ∧ H = [some ob])
  · apply Tells.seq (fr' := kpFr c 2 b 0) (H' := [some ob])
    · (refine ⟨0, ?_⟩; simp (maxSteps := 2000000) -implicitDefEqProofs [-getElem?_pos, List.getElem?_cons_zero, List.getElem?_cons_succ, go_sem, eqV, plen, loadV, storeV, kpFr])
    apply Tells.block
    refine Tells.loop (σ := Nat) (fun i => i ≤ 8) (fun i => kpFr c 2 b i) (fun _ => [some ob]) (fun i => 8 - i) ?_ 0 (by omega)
    intro i hi
    by_cases hi8 : i = 8
    · right
      subst hi8
      refine ⟨⟨.exit 0, kpFr c 2 b 8 ++ [(33, .bool false)], [some ob]⟩, ⟨rfl, rfl, rfl⟩, by simp, ?_⟩
      (refine ⟨0, ?_⟩; simp (maxSteps := 2000000) -implicitDefEqProofs [-getElem?_pos, List.getElem?_cons_zero, List.getElem?_cons_succ, go_sem, eqV, plen, loadV, storeV, kpFr, hg])
    · left
      have hiI : (i : Int) < 8 := by omega
      have w1 : IntKind.i64.wrap ((i : Int) + 1) = ((i + 1 : Nat) : Int) := by rw [wrap_i64 (by omega) (by omega)]; omega
      have hv : (b ++ e8)[b.length + i]? = some 165 := by
        rw [List.getElem?_append_right (by omega), show b.length + i - b.length = i by omega]
        match i, hi, hi8 with
        | 0, _, _ | 1, _, _ | 2, _, _ | 3, _, _ | 4, _, _ | 5, _, _ | 6, _, _ | 7, _, _ => rfl
        | 8, _, h => exact absurd rfl h
        | i + 9, h, _ => omega
      refine ⟨i + 1, by omega, ?_, by omega⟩
      have hin : i < 8 := by omega
      (refine ⟨0, ?_⟩; simp (maxSteps := 2000000) -implicitDefEqProofs [-getElem?_pos, List.getElem?_cons_zero, List.getElem?_cons_succ, go_sem, eqV, plen, loadV, storeV, kpFr, hiI, hin, hg, hp, hid, hv, w1])
  · rintro fr H ⟨rfl, rfl⟩
    refine Tells.of (o := ⟨.ret, [(4, .bool true)], [some ob]⟩) ⟨0, ?_⟩ ⟨rfl, rfl, rfl⟩
    simp (maxSteps := 2000000) -implicitDefEqProofs [-getElem?_pos, List.getElem?_cons_zero, List.getElem?_cons_succ, go_sem, eqV, plen, loadV, storeV, kpFr]

end

theorem own_ev {H : AM.Heap} {a : AV} {b : List UInt8} (h : Byt H a b) (hb : b.length ≤ 900000) : ∃ ob, OwnB b ob ∧ evT X 9 [a] H = some (.sl H.length 0 b.length 0, H ++ [some ob]) := by
  obtain ⟨c, p, xl, hp, hc, hx⟩ := args_byt (C := X) (f := 9) (i := 0) rfl h (args_nil 1)
  obtain ⟨code, hcode, hr⟩ := own_code c b hc hb
  obtain ⟨ob, q1, q2, q3⟩ := Ev1.newBc (H := H) (n := b.length) (k := some (b.length + 8)) (l := b ++ e8) (rest := []) (evT_below X) Try.func9 hcode hx (by simp [idsL, ids, hp.ids]) (by simp [gtag]) rfl rfl rfl (by
    obtain ⟨o, ⟨he, o1, g, ob, q1, q2, q3, q4⟩, hrun⟩ := hr
    exact ⟨o, ⟨he, o1, g, ob, congrArg (fun v => some [v]) q1, q2, q3, q4⟩, by rw [par9, coB hp]; exact hrun⟩)
  exact ⟨ob, ⟨q1, q2⟩, evT_eq q3⟩

theorem OwnB.byt {H : AM.Heap} {o : Nat} {ob : AM.Obj} {b : List UInt8} (ho : H[o]? = some (some ob)) (h : OwnB b ob) : Byt H (.sl o 0 b.length 0) b :=
  Byt.sl ho h.rw (by simp) (by simp)

theorem kept_ev {H : AM.Heap} {o : Nat} {ob : AM.Obj} {b : List UInt8} {c t : Nat} (ho : H[o]? = some (some ob)) (h : OwnB b ob) (hc : c = 0 → b = []) (hb : b.length ≤ 900000) :
    evT X 13 [.sl o 0 b.length 0, .ro c (.pb b) t] H = some (.bool true, H) := by
  have hl : lendArgs X 13 H 1 [.ro c (.pb b) t] = some ([.ro c (.pb b) 2], [⟨[], [t]⟩]) := by simp [lendArgs, lendV, lend1]
  obtain ⟨code, hcode, ⟨⟨ex, fr, H1⟩, ⟨he, h4, hH⟩, hrun⟩⟩ := kept_code c b { ob with g := 0, tg := 3 } h.rw.p rfl h.rw.ids h.cap hc hb
  simp only at he h4 hH
  subst he hH
  exact evT_eq (Ev1.rw1 (H := H) (n := 3) (l := [.bool true]) (rest := []) (evT_below X) Try.func13 hcode rfl ho h.rw.g h.rw.ids (by rw [h.rw.p]; rfl) h.rw.tg hl rfl rfl rfl (by simp [gtag])
    (by rw [par13]; simpa [coerce, numbered] using hrun) (.inr rfl) (by show some [getF fr 4] = _; rw [h4]) rfl rfl rfl)

end Go.Proofs.Ytconnpileacfeaa

/- Walks: the document's reader of fields. -/
namespace Go.Proofs.Ytconnpileacfeaa
open Go.AM
set_option linter.unusedSimpArgs false
set_option linter.unusedVariables false

/-- the fields' box -/
def bxO (p : AV) (c t tg : Nat) (e : Int) : AM.Obj := ⟨.pc [.ro c p t, .int .i64 e], 0, some 2, 1, false, true, tg⟩
/-- the error, when what was read is wrong -/
def wr (bad : Bool) (e : Int) : Int := if e = 0 ∧ bad = true then 5 else e
/-- bytes off what is left -/
def bts (n : Nat) (s : St) : List UInt8 := if s.2 ≠ 0 ∨ s.1.length < n then List.replicate n 0 else s.1.take n

theorem bts_len (n : Nat) (s : St) : (bts n s).length = n := by
  unfold bts
  split
  · simp
  · rename_i h
    simp; omega

theorem leV_zeros (n : Nat) : leV (List.replicate n 0) = 0 := by
  induction n with
  | zero => rfl
  | succ n ih => rw [List.replicate_succ, leV, ih]; rfl

theorem bts_fx (n : Nat) (s : St) : leV (bts n s) = (fx n s).1 := by
  unfold bts fx
  by_cases h1 : s.2 ≠ 0
  · rw [if_pos (.inl h1), if_pos h1, leV_zeros]
  · rw [if_neg h1]
    by_cases h2 : s.1.length < n
    · rw [if_pos (.inr h2), if_pos h2, leV_zeros]
    · rw [if_neg (by simp only [ne_eq, Decidable.not_not] at h1; omega), if_neg h2]

theorem mkB {n : Nat} (hn : n ≤ 1000000) (H : AM.Heap) : makeSliceV X H 22 (.int .i64 (n : Nat)) (.int .i64 (n : Nat)) = some (.sl H.length 0 n 0, H ++ [some ⟨.pb (List.replicate n 0), 0, some n, 1, true, false, 0⟩]) := by
  have hz : ∀ n, zeroRow X 5 n = some (.pb (List.replicate n 0)) := fun n => by simp [zeroRow, cellsAV, scalars, scalar, idsL, ids, tagsL, tags]
  have h0 : (0 : Int) ≤ n := by omega
  have h1 : (n : Int) ≤ 9223372036854775807 := by omega
  have h2 : (n : Int) ≤ 140737488355328 := by omega
  simp [makeSliceV, hz, h0, h1, h2, rowOf]

theorem slTo {c t n : Nat} {b : List UInt8} (hc : c = 0 → b = []) (hn : n ≤ b.length) (H : AM.Heap) : sliceV X H 22 (.ro c (.pb b) t) none (some (.int .i64 (n : Nat))) = some (.ro (if c = 0 then 0 else 2) (.pb (b.take n)) t) := by
  have hnl : (n : Int) ≤ (b.length : Int) := by omega
  simp [sliceV, bound, plen, pesz, psub, hnl, hn]

theorem slFrom {c t n : Nat} {b : List UInt8} (hc : c = 0 → b = []) (hn : n ≤ b.length) (H : AM.Heap) : sliceV X H 22 (.ro c (.pb b) t) (some (.int .i64 (n : Nat))) none = some (.ro c (.pb (b.drop n)) t) := by
  have hcc : (if c = 0 then 0 else c) = c := by split <;> omega
  have hnl : (n : Int) ≤ (b.length : Int) := by omega
  have hle : n + (b.length - n) ≤ b.length := by omega
  have ht : List.take (b.length - n) (b.drop n) = b.drop n := by rw [List.take_of_length_le (by simp)]
  simp [sliceV, bound, plen, pesz, psub, hnl, hcc, hle, ht]

section
variable (c t tg : Nat) (p : AV) (e : Int) (s : St) (n : Nat) (bad : Bool)

end

theorem jt (c t : Nat) (s : St) : joinTags (tagsOb (rdO c t t s)) = some t := by
  simp [tagsOb, rdO, tags, tagsL, joinTags, joinTag]; omega

section
variable (c t : Nat) (p : AV) (e : Int) (s : St) (n : Nat)

/-- all that is left -/
def rsF (s : St) : List UInt8 := if s.2 ≠ 0 then [] else s.1
def rsO (c t : Nat) (s : St) : AM.Obj := if s.2 ≠ 0 then rdO c t t s else rdN t 0

end

end Go.Proofs.Ytconnpileacfeaa

/- Plain: places; payloads in frames. -/
namespace Go.Proofs.Ytconnpileacfeaa
open Go.AM
set_option linter.unusedSimpArgs false
set_option linter.unusedVariables false

theorem at_cat {α : Type} {H r : List α} {j : Nat} {y : α} (h : H[j]? = some y) : (H ++ r)[j]? = some y := by
  rw [List.getElem?_append_left]
  · exact h
  · exact (List.getElem?_eq_some_iff.1 h).1
theorem at_lt {α : Type} {H : List α} {j : Nat} {y : α} (h : H[j]? = some y) : j < H.length := (List.getElem?_eq_some_iff.1 h).1
theorem at_set {α : Type} {H : List α} {j : Nat} {y x : α} (h : H[j]? = some y) : (H.set j x)[j]? = some x := by
  rw [List.getElem?_set_self (at_lt h)]
theorem at_ne {α : Type} {H : List α} {j k : Nat} {y x : α} (h : H[j]? = some y) (hne : k ≠ j) : (H.set k x)[j]? = some y := by
  rw [List.getElem?_set_ne hne]; exact h

theorem bsK (H : AM.Heap) (y : UInt8) (k : Int) (h : (y.toNat : Int) = k) : buildSliceV X H 22 1 [(0, .int .u8 k)] = some (.ro 1 (.pb [y]) 0, H) := by
  subst h; exact bs1 H y

/-- a slice within a borrowed one -/
theorem slMid {c t i n : Nat} {b : List UInt8} (hc : c = 0 → b = []) (hn : i + n ≤ b.length) (H : AM.Heap) : sliceV X H 22 (.ro c (.pb b) t) (some (.int .i64 (i : Nat))) (some (.int .i64 ((i + n : Nat) : Int))) = some (.ro (if c = 0 then 0 else 2) (.pb ((b.drop i).take n)) t) := by
  have h1 : (i : Int) ≤ ((i + n : Nat) : Int) := by omega
  have h2 : ((i + n : Nat) : Int) ≤ (b.length : Int) := by omega
  have h3 : i + n - i = n := by omega
  have h4 : i + n ≤ b.length := hn
  have h5 : i ≤ i + n := by omega
  have h6 : ((i : Int) + (n : Int)) ≤ (b.length : Int) := by omega
  have h7 : (i : Int) ≤ (i : Int) + (n : Int) := by omega
  have h8 : ((i : Int) + (n : Int)).toNat = i + n := by omega
  have h9 : 0 ≤ (i : Int) + (n : Int) := by omega
  simp [sliceV, bound, plen, pesz, psub, h1, h2, h3, h4, h5, h6, h7, h8, h9]

theorem mmin (a b : Int) : minmax false (.int .i64 a) [.int .i64 b] = some (.int .i64 (if b < a then b else a)) := by simp [minmax]

theorem wrap8 {k : Nat} (h : k < 256) : IntKind.u8.wrap ((k : Int) + 1) = (((k + 1) % 256 : Nat) : Int) := by
  unfold IntKind.wrap
  simp [IntKind.signed, IntKind.bits]

/-- a frame's head -/
def hdB (n s : Nat) : List UInt8 := leB 3 n ++ [UInt8.ofNat s]
theorem hdB_len (n s : Nat) : (hdB n s).length = 4 := by unfold hdB; rw [List.length_append, leB_len]; rfl
/-- a payload cut into frames of most m bytes, behind others; fuel -/
def spS (m : Nat) : Nat → List UInt8 → List UInt8 → Nat → List UInt8 × Nat
  | 0, out, _, s => (out, s)
  | f + 1, out, b, s =>
    if b.length < m then (out ++ (hdB b.length s ++ b), (s + 1) % 256)
    else spS m f (out ++ (hdB m s ++ b.take m)) (b.drop m) ((s + 1) % 256)
/-- what Split tells -/
def split (b : List UInt8) (s : Nat) (m : Int) : List UInt8 × Nat × Int :=
  if m < 1 ∨ 16777215 < m then ([], 0, 2) else if 1073741824 < b.length then ([], 0, 3) else ((spS m.toNat (b.length + 1) [] b s).1, (spS m.toNat (b.length + 1) [] b s).2, 0)

end Go.Proofs.Ytconnpileacfeaa

/- Walks: a payload cut into frames. -/
namespace Go.Proofs.Ytconnpileacfeaa
open Go.AM
set_option linter.unusedSimpArgs false
set_option linter.unusedVariables false

theorem noslU8 : noSl X 6 5 = true := by kernel_rfl

/-- may a most be? -/
def bdM (m : Int) : Bool := decide (1 ≤ m ∧ m ≤ 16777215)

set_option maxRecDepth 100000 in
theorem bd_code (m : Int) : ∃ code, Try.f24.body = some code ∧
    Run X (evT X) 24 0 code [(0, .int .i64 m)] [] ⟨.ret, [(2, .bool (bdM m))], []⟩ := by
  refine ⟨_, rfl, 0, ?_⟩
  unfold bdM
  by_cases h : 1 ≤ m
  · simp (maxSteps := 2000000) -implicitDefEqProofs [-getElem?_pos, List.getElem?_cons_zero, List.getElem?_cons_succ, go_sem, eqV, plen, loadV, storeV, h]
  · simp (maxSteps := 2000000) -implicitDefEqProofs [-getElem?_pos, List.getElem?_cons_zero, List.getElem?_cons_succ, go_sem, eqV, plen, loadV, storeV, h]
theorem bd_ev (m : Int) (H : AM.Heap) : evT X 24 [.int .i64 m] H = some (.bool (bdM m), H) := by
  obtain ⟨code, hcode, hr⟩ := bd_code m
  exact evT_eq (Ev1.toldP (l := [.bool (bdM m)]) (evT_below X) Try.func24 hcode (args_flat (i := 0) rfl rfl (args_nil 1)) rfl (by simp [gtag]) rfl rfl rfl ⟨_, ⟨rfl, rfl⟩, by rw [par24]; exact hr⟩)

section
variable (c : Nat) (m : Nat)

/-- a round's frame -/
def spFr (b : List UInt8) (s o g : Nat) (out : List UInt8) : AM.Frame := [(0, .ro c (.pb b) 1), (1, .int .u8 (s : Nat)), (2, .int .i64 (m : Nat)), (9, .sl o 0 out.length g)]
def spFn (b : List UInt8) (s o g N n : Nat) : AM.Frame := [(0, .ro c (.pb b) 1), (1, .int .u8 (s : Nat)), (2, .int .i64 (m : Nat)), (9, .sl o 0 N g), (10, .int .i64 (n : Nat))]

set_option maxRecDepth 100000 in
set_option maxHeartbeats 4000000 in
/-- the number, and the bytes, behind a frame's length -/
theorem sp_r8 (b out : List UInt8) (s o g n : Nat) (ob : AM.Obj) (H : AM.Heap) (hs : s < 256) (hc : c = 0 → b = []) (hn : n ≤ b.length) (hb : b.length ≤ 1000000) (hN : out.length ≤ 90000000) (ho : H[o]? = some (some ob)) (hw : Rw (.pb out) g ob) :
    ∃ ob', Rw (.pb (out ++ UInt8.ofNat s :: b.take n)) (g + 2) ob' ∧ ∃ code, ((Try.f10.body).bind (codeAt [1, 1, 1, 1, 0, 0, 0, 1, 1, 0])) = some code ∧ Run X (evT X) 10 0 code (spFn c m b s o g out.length n) H ⟨.normal, spFn c m b s o (g + 2) (out ++ UInt8.ofNat s :: b.take n).length n, upd H o (some ob')⟩ := by
  have hsl := fun H => slTo (c := c) (t := 1) hc hn H
  obtain ⟨ob1, hw1, hA1⟩ := app_b (H := H) (o := o) (m := [UInt8.ofNat s]) (src := .ro 1 (.pb [UInt8.ofNat s]) 0) ho hw (.inl rfl) (by simp; omega)
  have ho1 : (upd H o (some ob1))[o]? = some (some ob1) := at_set ho
  obtain ⟨ob2, hw2, hA2⟩ := app_b (H := upd H o (some ob1)) (o := o) (m := b.take n) (src := .ro (if c = 0 then 0 else 2) (.pb (b.take n)) 1) ho1 hw1 (.inl (by simp [srcV, payB, ptag])) (by simp; omega)
  have hup : upd (upd H o (some ob1)) o (some ob2) = upd H o (some ob2) := by unfold upd; simp
  rw [hup] at hA2
  refine ⟨ob2, by simpa using hw2, _, rfl, ?_⟩
  have hbs := fun H => bsK H (UInt8.ofNat s) (s : Nat) (by rw [UInt8.toNat_ofNat', Nat.mod_eq_of_lt hs])
  have hl2 : (out ++ UInt8.ofNat s :: b.take n).length = out.length + 1 + (b.take n).length := by simp; omega
  rw [hl2]
  simp only [List.length_append, List.length_cons, List.length_nil, Nat.zero_add, upd] at hA1 hA2
  have hlt := at_lt ho
  unfold spFn
  generalize (b.take n).length = k at *
  generalize (if c = 0 then 0 else 2) = c' at *
  apply Run.dy (by simp) keep10_8 (by simp)
  · (conv => lhs; simp (maxSteps := 2000000) -implicitDefEqProofs [-getElem?_pos, List.getElem?_cons_zero, List.getElem?_cons_succ, go_sem, eqV, plen, loadV, storeV, runD, out1, markOf, freeO, quietO, pushes, isAssign, calledV, touched, mentioned, opVals, touchCall, mentionCall, idsAt, Op.operands, ids, idsL, lendArgs, lendV, lend1, lendL, eqH_self, hbs, hA1, hA2, hsl, assignV, noslU8])
    rfl
  · refine marksOk_of (ps := [(0, 1), (0, 2), (0, 4), (1, 4), (2, 4), (3, 4), (0, 5), (1, 5), (2, 5), (3, 5), (4, 5), (0, 6), (1, 6), (2, 6), (3, 6)]) (by kernel_rfl) ?_
    simp [bearP, bear, disjoint, lookOk, Call.operands, evalO, getF, idsL, ids]
  · rfl

/-- how Split tells -/
def spQ (x : List UInt8 × Nat × Int) (fr : AM.Frame) (H : AM.Heap) : Prop := ∃ o g ob, getF fr 6 = .sl o 0 x.1.length g ∧ getF fr 7 = .int .u8 (x.2.1 : Nat) ∧ getF fr 8 = .int .i64 x.2.2 ∧ H[o]? = some (some ob) ∧ Rw (.pb x.1) g ob

set_option maxRecDepth 100000 in
set_option maxHeartbeats 4000000 in
theorem sp_loop (b0 : List UInt8) (s0 o0 f0 : Nat) (ob0 : AM.Obj) (H0 : AM.Heap) (hm : m ≤ 16777215) (hm1 : 1 ≤ m) (hs0 : s0 < 256) (hc0 : c = 0 → b0 = []) (hb0 : b0.length ≤ 1000000) (hf0 : b0.length < f0) (ho0 : H0[o0]? = some (some ob0)) (hw0 : Rw (.pb []) 0 ob0) :
    ∃ code, ((Try.f10.body).bind (codeAt [1, 1, 1, 1])) = some code ∧
      Tells (Rets (spQ ((spS m f0 [] b0 s0).1, (spS m f0 [] b0 s0).2, 0))) X (evT X) 10 0 code (spFr c m b0 s0 o0 0 []) H0 := by
  refine ⟨_, rfl, ?_⟩
  refine Tells.blk ?_ (fun o h => by rw [h.1]; simp)
  refine Tells.loopP (fun k fr H => ∃ b s o g out ob f tl, k = b.length ∧ fr = spFr c m b s o g out ++ tl ∧ (tl = [] ∨ tl = [(43, .bool false)]) ∧ s < 256 ∧ (c = 0 → b = []) ∧ b.length ≤ 1000000 ∧ b.length < f ∧ out.length + 5 * b.length ≤ 5 * b0.length ∧ H[o]? = some (some ob) ∧ Rw (.pb out) g ob ∧ spS m f0 [] b0 s0 = spS m f out b s) ?_ (k := b0.length) ⟨b0, s0, o0, 0, [], ob0, f0, [], rfl, rfl, .inl rfl, hs0, hc0, hb0, hf0, by simp, ho0, hw0, rfl⟩
  rintro k fr H ⟨b, s, o, g, out, ob, f, tl, rfl, rfl, htl, hs, hc, hb, hf, hlen, ho, hw, hX⟩
  rw [hX]
  obtain ⟨f, rfl⟩ : ∃ f', f = f' + 1 := ⟨f - 1, by omega⟩
  obtain ⟨n, hn⟩ : ∃ n, n = min b.length m := ⟨_, rfl⟩
  have hnb : n ≤ b.length := by omega
  have hnm : n ≤ m := by omega
  obtain ⟨ob1, hw1, hA1⟩ := af_ev (H := H) (x := n) (n := 3) (Byt.whole ho hw) (by omega) (by omega) (by omega) (show n < 256 ^ 3 by simp only [Nat.reducePow]; omega)
  simp only [Int.cast_ofNat_Int] at hA1
  have hl3 : (out ++ leB 3 n).length = out.length + 3 := by rw [List.length_append, leB_len]
  obtain ⟨ob2, hw2, r8⟩ := sp_r8 c m b (out ++ leB 3 n) s H.length 0 n ob1 (H ++ [some ob1]) hs hc hnb hb (by rw [hl3]; omega) (by simp) hw1
  have hcat : out ++ leB 3 n ++ UInt8.ofNat s :: b.take n = out ++ (hdB n s ++ b.take n) := by unfold hdB; simp
  rw [hcat] at hw2 r8
  have hk2 : (upd (H ++ [some ob1]) H.length (some ob2))[H.length]? = some (some ob2) := at_set (y := some ob1) (by simp)
  have hmin : (if m < b.length then (m : Int) else (b.length : Int)) = (n : Int) := by
    split <;> omega
  have w64 : IntKind.u64.wrap (n : Int) = (n : Int) := wrap_u64 (by omega) (by omega)
  have hsl := fun H => slFrom (c := c) (t := 1) hc hnb H
  have w8 := wrap8 hs
  have hol : (out ++ (hdB n s ++ b.take n)).length = out.length + 4 + n := by
    rw [List.length_append, List.length_append, hdB_len, List.length_take]; omega
  refine Tells.blk ?_ (by
    rintro o (⟨h, _⟩ | ⟨_, h, _⟩)
    · rw [h]; simp
    · rw [h]; simp)
  apply Tells.seq (fr' := spFn c m b s o g out.length n) (H' := H)
  · unfold spFr spFn
    generalize out.length = N at *
    rcases htl with rfl | rfl
    · (refine ⟨0, ?_⟩; simp (maxSteps := 2000000) -implicitDefEqProofs [-getElem?_pos, List.getElem?_cons_zero, List.getElem?_cons_succ, go_sem, eqV, plen, loadV, storeV, mmin, hmin])
    · (refine ⟨0, ?_⟩; simp (maxSteps := 2000000) -implicitDefEqProofs [-getElem?_pos, List.getElem?_cons_zero, List.getElem?_cons_succ, go_sem, eqV, plen, loadV, storeV, mmin, hmin])
  apply Tells.seq (fr' := spFn c m b s H.length 0 (out ++ leB 3 n).length n) (H' := H ++ [some ob1])
  · unfold spFn
    rw [hl3]
    generalize out.length = N at *
    (refine ⟨0, ?_⟩; simp (maxSteps := 2000000) -implicitDefEqProofs [-getElem?_pos, List.getElem?_cons_zero, List.getElem?_cons_succ, go_sem, eqV, plen, loadV, storeV, w64, hA1, assignV])
  apply Tells.seq (piece r8 _ rfl)
  have hnI : (n : Int) ≤ (m : Int) := by omega
  generalize hHU : upd (H ++ [some ob1]) H.length (some ob2) = HU at *
  apply Tells.seq (fr' := spFn c m b ((s + 1) % 256) H.length 2 (out ++ (hdB n s ++ b.take n)).length n) (H' := HU)
  · unfold spFn
    generalize (out ++ (hdB n s ++ b.take n)).length = N2 at *
    (refine ⟨0, ?_⟩; simp (maxSteps := 2000000) -implicitDefEqProofs [-getElem?_pos, List.getElem?_cons_zero, List.getElem?_cons_succ, go_sem, eqV, plen, loadV, storeV, w8])
  apply Tells.seq (fr' := spFn c m (b.drop n) ((s + 1) % 256) H.length 2 (out ++ (hdB n s ++ b.take n)).length n) (H' := HU)
  · unfold spFn
    generalize (out ++ (hdB n s ++ b.take n)).length = N2 at *
    (refine ⟨0, ?_⟩; simp (maxSteps := 2000000) -implicitDefEqProofs [-getElem?_pos, List.getElem?_cons_zero, List.getElem?_cons_succ, go_sem, eqV, plen, loadV, storeV, hsl, assignV])
  have hs2 : (s + 1) % 256 < 256 := Nat.mod_lt _ (by omega)
  by_cases hlt : b.length < m
  · have hnb2 : n = b.length := by omega
    have hR : spS m (f + 1) out b s = (out ++ (hdB n s ++ b.take n), (s + 1) % 256) := by
      rw [spS, if_pos hlt, hnb2, List.take_length]
    have hnmI : (n : Int) < (m : Int) := by omega
    rw [hR]
    refine Tells.of (o := ⟨.ret, [(6, .sl H.length 0 (out ++ (hdB n s ++ b.take n)).length 2), (7, .int .u8 (((s + 1) % 256 : Nat) : Int)), (8, .int .i64 0)], HU⟩) ⟨0, ?_⟩ (.inr ⟨by simp, rfl, H.length, 2, ob2, rfl, rfl, rfl, hk2, hw2⟩)
    unfold spFn
    generalize (out ++ (hdB n s ++ b.take n)).length = N2 at *
    generalize (s + 1) % 256 = s' at *
    simp (maxSteps := 2000000) -implicitDefEqProofs [-getElem?_pos, List.getElem?_cons_zero, List.getElem?_cons_succ, go_sem, eqV, plen, loadV, storeV, hnmI, assignV]
  · have hnm2 : n = m := by omega
    have hR : spS m (f + 1) out b s = spS m f (out ++ (hdB n s ++ b.take n)) (b.drop n) ((s + 1) % 256) := by
      rw [spS, if_neg hlt, hnm2]
    refine Tells.of (o := ⟨.normal, spFr c m (b.drop n) ((s + 1) % 256) H.length 2 (out ++ (hdB n s ++ b.take n)) ++ [(43, .bool false)], HU⟩) ⟨0, ?_⟩ (.inl ⟨rfl, (b.drop n).length, by rw [List.length_drop]; omega, b.drop n, (s + 1) % 256, H.length, 2, _, ob2, f, _, rfl, rfl, .inr rfl, hs2, fun h => by rw [hc h]; simp, by rw [List.length_drop]; omega, by rw [List.length_drop]; omega, by rw [hol, List.length_drop]; omega, hk2, hw2, hR⟩)
    have hnmI : ¬ (n : Int) < (m : Int) := by omega
    unfold spFn spFr
    generalize (out ++ (hdB n s ++ b.take n)).length = N2 at *
    generalize (s + 1) % 256 = s' at *
    simp (maxSteps := 2000000) -implicitDefEqProofs [-getElem?_pos, List.getElem?_cons_zero, List.getElem?_cons_succ, go_sem, eqV, plen, loadV, storeV, hnmI]

end

section
variable (c : Nat) (b : List UInt8)

set_option maxRecDepth 100000 in
set_option maxHeartbeats 4000000 in
theorem split_code (s : Nat) (m : Int) (hs : s < 256) (hc : c = 0 → b = []) (hb : b.length ≤ 1000000) : ∃ code, Try.f10.body = some code ∧
    Tells (Rets (spQ (split b s m))) X (evT X) 10 0 code [(0, .ro c (.pb b) 1), (1, .int .u8 (s : Nat)), (2, .int .i64 m)] [] := by
  refine ⟨_, rfl, ?_⟩
  have hB := bd_ev m
  apply Tells.seq (fr' := [(0, .ro c (.pb b) 1), (1, .int .u8 (s : Nat)), (2, .int .i64 m)]) (H' := [some nilB])
  · (refine ⟨0, ?_⟩; simp (maxSteps := 2000000) -implicitDefEqProofs [-getElem?_pos, List.getElem?_cons_zero, List.getElem?_cons_succ, go_sem, eqV, plen, loadV, storeV, assignV, emB])
  by_cases hm : m < 1 ∨ 16777215 < m
  · rw [show split b s m = ([], 0, 2) from if_pos hm]
    rw [show bdM m = false from decide_eq_false (by omega)] at hB
    refine Tells.of (o := ⟨.ret, [(6, .sl 1 0 0 0), (7, .int .u8 0), (8, .int .i64 2)], [some nilB, some nilB]⟩) ?_ ⟨rfl, 1, 0, nilB, rfl, rfl, rfl, rfl, nilB_rw⟩
    apply Run.seq_out (hne := by simp)
    refine ⟨0, ?_⟩
    simp (maxSteps := 2000000) -implicitDefEqProofs [-getElem?_pos, List.getElem?_cons_zero, List.getElem?_cons_succ, go_sem, eqV, plen, loadV, storeV, hB, unV, assignV, emB]
  rw [show bdM m = true from decide_eq_true (by omega)] at hB
  apply Tells.seq (fr' := [(0, .ro c (.pb b) 1), (1, .int .u8 (s : Nat)), (2, .int .i64 m), (13, .bool false)]) (H' := [some nilB])
  · (refine ⟨0, ?_⟩; simp (maxSteps := 2000000) -implicitDefEqProofs [-getElem?_pos, List.getElem?_cons_zero, List.getElem?_cons_succ, go_sem, eqV, plen, loadV, storeV, hB, unV])
  have h5i : ¬ (1073741824 : Int) < (b.length : Int) := by omega
  apply Tells.seq (fr' := [(0, .ro c (.pb b) 1), (1, .int .u8 (s : Nat)), (2, .int .i64 m), (16, .bool false)]) (H' := [some nilB])
  · (refine ⟨0, ?_⟩; simp (maxSteps := 2000000) -implicitDefEqProofs [-getElem?_pos, List.getElem?_cons_zero, List.getElem?_cons_succ, go_sem, eqV, plen, loadV, storeV, h5i])
  obtain ⟨n, rfl⟩ : ∃ n : Nat, m = (n : Nat) := ⟨m.toNat, by omega⟩
  apply Tells.seq (fr' := spFr c n b s 1 0 []) (H' := [some nilB, some nilB])
  · unfold spFr
    (refine ⟨0, ?_⟩; simp (maxSteps := 2000000) -implicitDefEqProofs [-getElem?_pos, List.getElem?_cons_zero, List.getElem?_cons_succ, go_sem, eqV, plen, loadV, storeV, assignV, emB])
  rw [show split b s (n : Nat) = ((spS n (b.length + 1) [] b s).1, (spS n (b.length + 1) [] b s).2, 0) by unfold split; rw [if_neg hm, if_neg (by omega)]; rfl]
  exact piece (sp_loop c n b s 1 (b.length + 1) nilB _ (by omega) (by omega) hs hc hb (by omega) rfl nilB_rw) _ rfl

end

theorem split_ev {H : AM.Heap} {a : AV} {b : List UInt8} {s : Nat} {m : Int} (h : Byt H a b) (hs : s < 256) (hb : b.length ≤ 1000000) :
    ∃ ob, Rw (.pb (split b s m).1) 0 ob ∧ evT X 10 [a, .int .u8 (s : Nat), .int .i64 m] H = some (.tup [.sl H.length 0 (split b s m).1.length 0, .int .u8 ((split b s m).2.1 : Nat), .int .i64 (split b s m).2.2], H ++ [some ob]) := by
  obtain ⟨c, p, xl, hp, hc, hx'⟩ := args_byt (C := X) (f := 10) (i := 0) rfl h (args_flat (i := 1) (a := .int .u8 (s : Nat)) rfl rfl (args_flat (i := 2) (a := .int .i64 m) rfl rfl (args_nil 3)))
  obtain ⟨code, hcode, hr⟩ := split_code c b s m hs hc hb
  obtain ⟨ob, q1, q2⟩ := Ev1.newB (H := H) (n := (split b s m).1.length) (l := (split b s m).1) (rest := [.int .u8 ((split b s m).2.1 : Nat), .int .i64 (split b s m).2.2]) (evT_below X) Try.func10 hcode hx' (by simp [idsL, ids, hp.ids]) (by simp [gtag]) rfl rfl rfl (by
    obtain ⟨o, ⟨he, o1, g, ob, q1, q2, q3, q4, q5⟩, hrun⟩ := hr
    exact ⟨o, ⟨he, o1, g, ob, by show some [getF o.fr 6, getF o.fr 7, getF o.fr 8] = _; rw [q1, q2, q3], q4, q5⟩, by rw [par10, coB hp]; exact hrun⟩)
  exact ⟨ob, q1, evT_eq q2⟩

end Go.Proofs.Ytconnpileacfeaa

/- Walks: a reader made. -/
namespace Go.Proofs.Ytconnpileacfeaa
open Go.AM
set_option linter.unusedSimpArgs false
set_option linter.unusedVariables false

/-- a reader -/
structure Rd where
  m : Nat
  lim : Nat
  nx : Nat := 0
  rest : List UInt8 := []
  body : List UInt8 := []
  sq : Nat := 0
  wi : Bool := false
  st : Int := 0

/-- a reader's cells -/
def Rd.pay (s : Rd) (vr vb : AV) : AV := .pc [.int .i64 (s.m : Nat), .int .i64 (s.lim : Nat), .int .u8 (s.nx : Nat), vr, vb, .int .u8 (s.sq : Nat), .bool s.wi, .int .i64 s.st]
def rdBx (s : Rd) (vr vb : AV) (tg : Nat) : AM.Obj := ⟨s.pay vr vb, 0, some 8, 1, false, true, tg⟩
/-- may a reader not be made? -/
def newBad (m lim : Int) : Bool := decide (m < 1 ∨ 16777215 < m) || decide (lim < 0 ∨ 1073741824 < lim)

theorem bdRd (m lim : Int) : buildV X 50 [(0, .int .i64 m), (1, .int .i64 lim)] = some (.agg (.pc [.int .i64 m, .int .i64 lim, .int .u8 0, .ro 0 .pn 0, .ro 0 .pn 0, .int .u8 0, .bool false, .int .i64 0])) := by kernel_rfl

section
variable (m lim : Int)

set_option maxRecDepth 100000 in
theorem new_bad (h : newBad m lim = true) : ∃ code, Try.f17.body = some code ∧
    Run X (evT X) 17 0 code [(0, .int .i64 m), (1, .int .i64 lim)] [] ⟨.ret, [(4, .nilptr), (5, .int .i64 2)], []⟩ := by
  refine ⟨_, rfl, 0, ?_⟩
  have hB := bd_ev m
  unfold newBad at h
  simp only [Bool.or_eq_true, decide_eq_true_eq] at h
  by_cases hm : m < 1 ∨ 16777215 < m
  · rw [show bdM m = false from decide_eq_false (by omega)] at hB
    simp (maxSteps := 2000000) -implicitDefEqProofs [-getElem?_pos, List.getElem?_cons_zero, List.getElem?_cons_succ, go_sem, eqV, plen, loadV, storeV, hB, unV, assignV]
  · rw [show bdM m = true from decide_eq_true (by omega)] at hB
    by_cases h1 : lim < 0
    · simp (maxSteps := 2000000) -implicitDefEqProofs [-getElem?_pos, List.getElem?_cons_zero, List.getElem?_cons_succ, go_sem, eqV, plen, loadV, storeV, hB, unV, assignV, h1]
    · have h2 : 1073741824 < lim := by omega
      simp (maxSteps := 2000000) -implicitDefEqProofs [-getElem?_pos, List.getElem?_cons_zero, List.getElem?_cons_succ, go_sem, eqV, plen, loadV, storeV, hB, unV, assignV, h1, h2]

set_option maxRecDepth 100000 in
theorem new_good (m lim : Nat) (h : newBad m lim = false) : ∃ code, Try.f17.body = some code ∧
    Run X (evT X) 17 0 code [(0, .int .i64 (m : Nat)), (1, .int .i64 (lim : Nat))] [] ⟨.ret, [(4, .ptr 0 0 0 0), (5, .int .i64 0)], [some (rdBx { m := m, lim := lim } (.ro 0 .pn 0) (.ro 0 .pn 0) 0)]⟩ := by
  refine ⟨_, rfl, 0, ?_⟩
  have hB := bd_ev (m : Nat)
  unfold newBad at h
  simp only [Bool.or_eq_false_iff, decide_eq_false_iff_not] at h
  rw [show bdM (m : Nat) = true from decide_eq_true (by omega)] at hB
  have h1 : ¬ (lim : Int) < 0 := by omega
  have h2 : ¬ (1073741824 : Int) < (lim : Int) := by omega
  have h2' : ¬ 1073741824 < lim := by omega
  simp (maxSteps := 2000000) -implicitDefEqProofs [-getElem?_pos, List.getElem?_cons_zero, List.getElem?_cons_succ, go_sem, eqV, plen, loadV, storeV, hB, unV, assignV, h1, h2, h2', rdBx, Rd.pay, bdRd]

end

theorem new_ev' {H : AM.Heap} {m lim : Int} (h : newBad m lim = true) : evT X 17 [.int .i64 m, .int .i64 lim] H = some (.tup [.nilptr, .int .i64 2], H) := by
  obtain ⟨code, hcode, hr⟩ := new_bad m lim h
  exact evT_eq (Ev1.toldP (l := [.nilptr, .int .i64 2]) (evT_below X) Try.func17 hcode (args_flat (i := 0) rfl rfl (args_flat (i := 1) rfl rfl (args_nil 2))) rfl (by simp [gtag]) rfl rfl rfl ⟨_, ⟨rfl, rfl⟩, by rw [par17]; exact hr⟩)
theorem new_ev {H : AM.Heap} {m lim : Nat} (h : newBad m lim = false) : evT X 17 [.int .i64 (m : Nat), .int .i64 (lim : Nat)] H = some (.tup [.ptr H.length 0 0 0, .int .i64 0], H ++ [some (rdBx { m := m, lim := lim } (.ro 0 .pn 0) (.ro 0 .pn 0) 0)]) := by
  obtain ⟨code, hcode, hr⟩ := new_good m lim h
  exact evT_eq (Ev1.newP (n := 3) (rest := [.int .i64 0]) (evT_below X) Try.func17 hcode (args_flat (i := 0) rfl rfl (args_flat (i := 1) rfl rfl (args_nil 2))) rfl rfl (by simp [gtag]) rfl rfl rfl (by simp [rdBx, Rd.pay, ids, idsL]) (by simp [rdBx, Rd.pay, tags, tagsL]) rfl rfl (by simp [rdBx, Rd.pay]) ⟨_, ⟨rfl, 0, rfl, rfl⟩, by rw [par17]; exact hr⟩)

end Go.Proofs.Ytconnpileacfeaa

/- Structures: a reader in a heap, and what lies behind it. -/
namespace Go.Proofs.Ytconnpileacfeaa
open Go.AM
set_option linter.unusedSimpArgs false
set_option linter.unusedVariables false

/-- lent, a slice that was handed over reads as these bytes -/
theorem bytT {H : AM.Heap} {o off len g t : Nat} {ob : AM.Obj} {m l : List UInt8} (ho : H[o]? = some (some ob)) (h : RwT (.pb m) g t ob) (hl : (m.drop off).take len = l) (hle : off + len ≤ m.length) : Byt H (.sl o off len g) l := by
  have hlive : live H o g = some ob := by simp [live, ho, h.g]
  refine ⟨if ob.z = 0 ∧ AM.plen ob.p = 0 then 0 else 2, .pb l, .inl rfl, fun h0 => ?_, fun t => ⟨⟨[o], [ob.tg]⟩, ?_⟩⟩
  · split at h0
    · rename_i hz
      have hm : m.length = 0 := by have := hz.2; rw [h.p] at this; exact this
      have : m = [] := List.eq_nil_of_length_eq_zero hm
      subst this
      rw [← hl]; simp
    · cases h0
  · simp only [lendV, lend1, hlive, h.ids, h.p, psub]
    rw [if_pos hle, hl]
    rfl

/-- a slice of bytes that a reader holds: none, or an object's end -/
def SlN (t : Nat) (v : AV) (l : List UInt8) : Prop := ∃ τ, (τ = 0 ∨ τ = t) ∧ v = .ro 0 .pn τ ∧ l = []
def SlO (t : Nat) (H : AM.Heap) (a : Nat) (v : AV) (l : List UInt8) : Prop :=
  ∃ off g τ ob L, (τ = 0 ∨ τ = t) ∧ v = .sl a off l.length g ∧ H[a]? = some (some ob) ∧ RwT (.pb L) g τ ob ∧ L.drop off = l ∧ off ≤ L.length ∧ L.length ≤ 8000000
theorem SlO.byt {t : Nat} {H : AM.Heap} {a : Nat} {v : AV} {l : List UInt8} (h : SlO t H a v l) : Byt H v l := by
  obtain ⟨off, g, τ, ob, L, _, rfl, ho, hw, hl, hle, _⟩ := h
  refine bytT ho hw (by rw [← hl, List.take_of_length_le (by simp)]) (by rw [← hl, List.length_drop]; omega)
theorem SlO.cat {t : Nat} {H r : AM.Heap} {a : Nat} {v : AV} {l : List UInt8} (h : SlO t H a v l) : SlO t (H ++ r) a v l := by
  obtain ⟨off, g, τ, ob, L, h1, h2, ho, h3⟩ := h
  exact ⟨off, g, τ, ob, L, h1, h2, at_cat ho, h3⟩
theorem SlO.ne {t : Nat} {H : AM.Heap} {a k : Nat} {x : Option AM.Obj} {v : AV} {l : List UInt8} (h : SlO t H a v l) (hk : k ≠ a) : SlO t (upd H k x) a v l := by
  obtain ⟨off, g, τ, ob, L, h1, h2, ho, h3⟩ := h
  exact ⟨off, g, τ, ob, L, h1, h2, at_ne ho hk, h3⟩
theorem SlO.lt {t : Nat} {H : AM.Heap} {a : Nat} {v : AV} {l : List UInt8} (h : SlO t H a v l) : a < H.length := by
  obtain ⟨off, g, τ, ob, L, h1, h2, ho, h3⟩ := h
  exact at_lt ho

/-- a reader within a callee: at 0, its rest at a, its body none or at c -/
structure RdI (t : Nat) (H : AM.Heap) (s : Rd) (a : Nat) (oc : Option Nat) : Prop where
  bx : ∃ vr vb τ, (τ = 0 ∨ τ = t) ∧ H[0]? = some (some (rdBx s vr vb τ)) ∧ SlO t H a vr s.rest ∧ (match oc with | none => SlN t vb s.body | some c => SlO t H c vb s.body ∧ 0 < c ∧ c ≠ a)
  a0 : 0 < a

section
variable {t : Nat} {H : AM.Heap} {s : Rd} {a c : Nat}

theorem tagsRd {vr vb : AV} : tags (s.pay vr vb) = tags vr ++ tags vb := by
  simp [Rd.pay, tags, tagsL]
theorem idsRd {vr vb : AV} : ids (s.pay vr vb) = ids vr ++ ids vb := by
  simp [Rd.pay, ids, idsL]

end

end Go.Proofs.Ytconnpileacfeaa

/- Walks: a reader handed on: its head looked at. -/
namespace Go.Proofs.Ytconnpileacfeaa
open Go.AM
set_option linter.unusedSimpArgs false
set_option linter.unusedVariables false

/-- what is wrong with a head -/
def ckE (s : Rd) : Int := if s.m < leV (s.rest.take 3) then 5 else if (s.rest.getD 3 0).toNat ≠ s.nx then 6 else if s.lim < s.body.length + leV (s.rest.take 3) then 3 else 0
def ckN (s : Rd) : Nat := if ckE s = 0 then leV (s.rest.take 3) else 0

section
variable {s : Rd}

set_option maxRecDepth 100000 in
set_option maxHeartbeats 4000000 in
/-- the head looked at, within -/
theorem ck_code (vr vb : AV) (E : AM.Heap) (m : Nat) (h0 : E[0]? = some (some (rdBx s vr vb 2))) (hr : SlO 2 E 1 vr s.rest) (hb : (∃ τ, vb = .ro 0 .pn τ ∧ s.body = []) ∨ SlO 2 E 2 vb s.body) (h4 : 4 ≤ s.rest.length) (hrl : s.rest.length ≤ 1000000) (hbl : s.body.length ≤ 1000000000) (hnx : s.nx < 256) :
    ∃ code, Try.f29.body = some code ∧
    Run X (evT X) 29 m code [(0, .ptr 0 0 0 0)] E ⟨.ret, [(2, .int .i64 (ckN s : Nat)), (3, .int .i64 (ckE s))], E⟩ := by
  refine ⟨_, rfl, ?_⟩
  have hR := rf_ev (H := E) (a := vr) (b := s.rest) (n := 3) hr.byt (by omega)
  have hrf : rfR s.rest (3 : Nat) = (((leV (s.rest.take 3) : Nat) : Int), 0) := by
    unfold rfR
    rw [if_neg (by omega), if_neg (by omega)]
    rfl
  rw [hrf] at hR
  simp only [Int.cast_ofNat_Int] at hR
  have hlv : leV (s.rest.take 3) < 16777216 := by
    have := leV_lt (s.rest.take 3)
    rw [List.length_take, Nat.min_eq_left (by omega)] at this
    simpa using this
  have hE : ckE s = if s.m < leV (s.rest.take 3) then 5 else if (s.rest.getD 3 0).toNat ≠ s.nx then 6 else if s.lim < s.body.length + leV (s.rest.take 3) then 3 else 0 := rfl
  have hN : ckN s = if ckE s = 0 then leV (s.rest.take 3) else 0 := rfl
  obtain ⟨y, hy⟩ : ∃ y, s.rest[3]? = some y := ⟨_, List.getElem?_eq_getElem (by omega)⟩
  rw [show s.rest.getD 3 0 = y by rw [List.getD, hy]; rfl] at hE
  generalize hx : leV (s.rest.take 3) = x at *
  have w64 : IntKind.i64.wrap (x : Int) = (x : Int) := wrap_i64 (by omega) (by omega)
  obtain ⟨off, g, τ, ob, L, hτ, rfl, ho, hw, hl, hle, hLb⟩ := hr
  have hyL : L[off + 3]? = some y := by rw [← hl, List.getElem?_drop] at hy; exact hy
  have hblen : ∀ n, (∃ τ, vb = .ro 0 .pn τ ∧ s.body = []) ∨ SlO 2 E 2 vb s.body → n = s.body.length → lenV X E 22 vb = some (n : Nat) := by
    rintro n (⟨τ, rfl, hb2⟩ | ⟨off, g, τ, ob, L, hτ, rfl, ho, hw, hl, hle, hLb⟩) rfl
    · rw [hb2]; simp [lenV, AM.plen]
    · simp [lenV, live, ho, hw.g]
  have hbL := hblen _ hb rfl
  apply Run.seq (fr' := [(0, .ptr 0 0 0 0)]) (H' := E)
  · (refine ⟨0, ?_⟩; simp (maxSteps := 2000000) -implicitDefEqProofs [-getElem?_pos, List.getElem?_cons_zero, List.getElem?_cons_succ, go_sem, eqV, plen, loadV, storeV, assignV])
  apply Run.seq (fr' := [(0, .ptr 0 0 0 0), (4, .int .u64 (x : Nat))]) (H' := E)
  · generalize s.rest.length = N at *
    (refine ⟨0, ?_⟩; simp (maxSteps := 2000000) -implicitDefEqProofs [-getElem?_pos, List.getElem?_cons_zero, List.getElem?_cons_succ, go_sem, eqV, plen, loadV, storeV, h0, rdBx, Rd.pay, hR, assignV])
  apply Run.seq (fr' := [(0, .ptr 0 0 0 0), (6, .int .i64 (x : Nat))]) (H' := E)
  · (refine ⟨0, ?_⟩; simp (maxSteps := 2000000) -implicitDefEqProofs [-getElem?_pos, List.getElem?_cons_zero, List.getElem?_cons_succ, go_sem, eqV, plen, loadV, storeV, w64])
  have hlen : s.rest.length = L.length - off := by rw [← hl, List.length_drop]
  have h3i : off + 3 < L.length := by omega
  have h3I : (3 : Int) < (s.rest.length : Int) := by omega
  have h3n : 3 < s.rest.length := by omega
  obtain ⟨p, gg, cap, zz, row, ids', tg⟩ := ob
  obtain ⟨q1, q2, q3, q4, q5⟩ := hw
  simp only at q1 q2 q3 q4 q5
  subst q1 q2 q3 q4 q5
  have wb : IntKind.i64.wrap ((s.body.length : Int) + (x : Int)) = ((s.body.length + x : Nat) : Int) := by rw [wrap_i64 (by omega) (by omega)]; omega
  by_cases c1 : s.m < x
  · have e5 : ckE s = 5 := by rw [hE, if_pos c1]
    rw [hN, e5, if_neg (by decide)]
    have c1I : (s.m : Int) < (x : Int) := by omega
    refine ⟨0, ?_⟩
    simp (maxSteps := 2000000) -implicitDefEqProofs [-getElem?_pos, List.getElem?_cons_zero, List.getElem?_cons_succ, go_sem, eqV, plen, loadV, storeV, h0, rdBx, Rd.pay, c1, c1I, assignV]
  have c1I : ¬ (s.m : Int) < (x : Int) := by omega
  by_cases c2 : y.toNat ≠ s.nx
  · have e6 : ckE s = 6 := by rw [hE, if_neg c1, if_pos c2]
    rw [hN, e6, if_neg (by decide)]
    have c2b : ((y.toNat : Int) != (s.nx : Int)) = true := by simp; omega
    refine ⟨0, ?_⟩
    simp (maxSteps := 2000000) -implicitDefEqProofs [-getElem?_pos, List.getElem?_cons_zero, List.getElem?_cons_succ, go_sem, eqV, plen, loadV, storeV, h0, ho, rdBx, Rd.pay, c1, c1I, h3i, h3I, h3n, hyL, c2b, assignV]
  have c2b : ((y.toNat : Int) != (s.nx : Int)) = false := by simp; omega
  by_cases c3 : s.lim < s.body.length + x
  · have e3 : ckE s = 3 := by rw [hE, if_neg c1, if_neg c2, if_pos c3]
    rw [hN, e3, if_neg (by decide)]
    have c3I : (s.lim : Int) < ((s.body.length + x : Nat) : Int) := by omega
    clear hbL hblen
    rcases hb with ⟨τ, rfl, hb2⟩ | ⟨off2, g2, τ2, ob2, L2, hτ2, rfl, ho2, hw2, hl2, hle2, hLb2⟩
    · rw [hb2] at wb c3 c3I
      simp only [List.length_nil, Nat.zero_add, Int.natCast_zero, Int.zero_add] at wb c3 c3I
      refine ⟨0, ?_⟩
      simp (maxSteps := 2000000) -implicitDefEqProofs [-getElem?_pos, List.getElem?_cons_zero, List.getElem?_cons_succ, go_sem, eqV, plen, loadV, storeV, h0, ho, rdBx, Rd.pay, c1, c1I, h3i, h3I, h3n, hyL, c2b, wb, c3, c3I, assignV]
    · have g2 := hw2.g
      generalize s.body.length + x = bx at *
      refine ⟨0, ?_⟩
      simp (maxSteps := 2000000) -implicitDefEqProofs [-getElem?_pos, List.getElem?_cons_zero, List.getElem?_cons_succ, go_sem, eqV, plen, loadV, storeV, h0, ho, ho2, g2, rdBx, Rd.pay, c1, c1I, h3i, h3I, h3n, hyL, c2b, wb, c3, c3I, assignV]
  have c3I : ¬ (s.lim : Int) < ((s.body.length + x : Nat) : Int) := by omega
  have e0 : ckE s = 0 := by rw [hE, if_neg c1, if_neg c2, if_neg c3]
  rw [hN, e0, if_pos rfl]
  clear hbL hblen
  rcases hb with ⟨τ, rfl, hb2⟩ | ⟨off2, g2, τ2, ob2, L2, hτ2, rfl, ho2, hw2, hl2, hle2, hLb2⟩
  · rw [hb2] at wb c3 c3I
    simp only [List.length_nil, Nat.zero_add, Int.natCast_zero, Int.zero_add] at wb c3 c3I
    refine ⟨0, ?_⟩
    simp (maxSteps := 2000000) -implicitDefEqProofs [-getElem?_pos, List.getElem?_cons_zero, List.getElem?_cons_succ, go_sem, eqV, plen, loadV, storeV, h0, ho, rdBx, Rd.pay, c1, c1I, h3i, h3I, h3n, hyL, c2b, wb, c3, c3I, assignV]
  · have g2 := hw2.g
    generalize s.body.length + x = bx at *
    refine ⟨0, ?_⟩
    simp (maxSteps := 2000000) -implicitDefEqProofs [-getElem?_pos, List.getElem?_cons_zero, List.getElem?_cons_succ, go_sem, eqV, plen, loadV, storeV, h0, ho, ho2, g2, rdBx, Rd.pay, c1, c1I, h3i, h3I, h3n, hyL, c2b, wb, c3, c3I, assignV]

end

end Go.Proofs.Ytconnpileacfeaa

/- Events: a reader handed on: none, checked. -/
namespace Go.Proofs.Ytconnpileacfeaa
open Go.AM
set_option linter.unusedSimpArgs false
set_option linter.unusedVariables false

theorem join2 {a b t : Nat} (ha : a = 0 ∨ a = t) (hb : b = 0 ∨ b = t) : ∃ t', (t' = 0 ∨ t' = t) ∧ joinTags [a, b] = some t' := by
  rcases ha with rfl | rfl <;> rcases hb with rfl | rfl
  · exact ⟨0, .inl rfl, rfl⟩
  · by_cases h : b = 0
    · subst h; exact ⟨0, .inl rfl, rfl⟩
    · exact ⟨b, .inr rfl, by simp [joinTags, joinTag, h]⟩
  · by_cases h : a = 0
    · subst h; exact ⟨0, .inl rfl, rfl⟩
    · exact ⟨a, .inr rfl, by simp [joinTags, joinTag, h]⟩
  · by_cases h : b = 0
    · subst h; exact ⟨0, .inl rfl, rfl⟩
    · exact ⟨b, .inr rfl, by simp [joinTags, joinTag, h]⟩

theorem reach2 {H : AM.Heap} {o a : Nat} {ob oa : AM.Obj} (ho : H[o]? = some (some ob)) (hi : ob.ids = true) (hid : ids ob.p = [a]) (ha : H[a]? = some (some oa)) (hai : oa.ids = false) (hne : a ≠ o) : reach H reachFuel [o] [] = [o, a] := by
  show reach H (99996 + 1 + 1 + 1 + 1) [o] [] = [o, a]
  simp [reach, ho, hi, hid, ha, hai, hne]
theorem reach3 {H : AM.Heap} {o a c : Nat} {ob oa oc : AM.Obj} (ho : H[o]? = some (some ob)) (hi : ob.ids = true) (hid : ids ob.p = [a, c]) (ha : H[a]? = some (some oa)) (hai : oa.ids = false) (hc : H[c]? = some (some oc)) (hci : oc.ids = false) (hne : a ≠ o) (hc1 : c ≠ o) (hc2 : c ≠ a) : reach H reachFuel [o] [] = [o, a, c] := by
  show reach H (99996 + 1 + 1 + 1 + 1) [o] [] = [o, a, c]
  simp [reach, ho, hi, hid, ha, hai, hc, hci, hne, hc1, hc2]

section
variable {H : AM.Heap} {s : Rd} {a : Nat}

set_option maxRecDepth 100000 in
set_option maxHeartbeats 4000000 in
/-- the head looked at; no body -/
theorem ck_ev1 (h : RdI 3 H s a none) (h4 : 4 ≤ s.rest.length) (hrl : s.rest.length ≤ 1000000) (hnx : s.nx < 256) :
    ∃ H', evT X 29 [.ptr 0 0 0 0] H = some (.tup [.int .i64 (ckN s : Nat), .int .i64 (ckE s)], H') ∧ RdI 3 H' s a none ∧ H'.length = H.length ∧ ∀ j, j ≠ 0 → j ≠ a → H'[j]? = H[j]? := by
  obtain ⟨⟨vr, vb, τ, hτ, h0, hr, hb⟩, a0⟩ := h
  obtain ⟨off, g, τ1, ob, L, hτ1, rfl, ho, hw, hl, hle, hLb⟩ := hr
  obtain ⟨τ2, hτ2, rfl, hbody⟩ := hb
  obtain ⟨p, gg, cap, zz, row, ids', tg⟩ := ob
  obtain ⟨q1, q2, q3, q4, q5⟩ := hw
  simp only at q1 q2 q3 q4 q5
  subst q1 q2 q3 q4 q5
  have hπ : reach H reachFuel [0] [] = [0, a] := reach2 h0 rfl (by simp [rdBx, Rd.pay, ids, idsL]) ho rfl (by omega)
  have hl0 : live H 0 0 = some (rdBx s (.sl a off s.rest.length gg) (.ro 0 .pn τ2) τ) := by simp [live, h0, rdBx]
  have hla : live H a gg = some ⟨.pb L, gg, cap, zz, true, false, tg⟩ := by simp [live, ho]
  have ha0 : a ≠ 0 := by omega
  have hin0 : intoN H [0, a] 0 0 = some (0, 0) := by simp [intoN, hl0, idxOf]
  have hina : intoN H [0, a] a gg = some (1, 0) := by simp [intoN, hla, idxOf, Ne.symm ha0]
  have hat0 : obAt H 0 = some (rdBx s (.sl a off s.rest.length gg) (.ro 0 .pn τ2) τ) := by simp [obAt, h0]
  have hata : obAt H a = some ⟨.pb L, gg, cap, zz, true, false, tg⟩ := by simp [obAt, ho]
  obtain ⟨t', ht', hj⟩ := join2 hτ2 hτ1
  have hent : ([0, a].map fun o => (obAt H o).map (renObj (intoN H [0, a]) (fun _ => 2) 0)) = [some (rdBx s (.sl 1 off s.rest.length 0) (.ro 0 .pn 2) 2), some ⟨.pb L, 0, cap, zz, true, false, 2⟩] := by
    simp [hat0, hata, renObj, rdBx, Rd.pay, ren, renL, hina]
  generalize hE : [some (rdBx s (.sl 1 off s.rest.length 0) (.ro 0 .pn 2) 2), some (⟨.pb L, 0, cap, zz, true, false, 2⟩ : AM.Obj)] = E at *
  have hE0 : E[0]? = some (some (rdBx s (.sl 1 off s.rest.length 0) (.ro 0 .pn 2) 2)) := by rw [← hE]; rfl
  have hE1 : E[1]? = some (some ⟨.pb L, 0, cap, zz, true, false, 2⟩) := by rw [← hE]; rfl
  obtain ⟨code, hcode, hrun⟩ := ck_code (s := s) (.sl 1 off s.rest.length 0) (.ro 0 .pn 2) E 2 hE0 ⟨off, 0, 2, _, L, .inr rfl, rfl, hE1, ⟨rfl, rfl, rfl, rfl, rfl⟩, hl, hle, hLb⟩ (.inl ⟨2, rfl, hbody⟩) h4 hrl (by rw [hbody]; simp) hnx
  have hoE0 : obAt E 0 = some (rdBx s (.sl 1 off s.rest.length 0) (.ro 0 .pn 2) 2) := by simp [obAt, hE0]
  have hoE1 : obAt E 1 = some ⟨.pb L, 0, cap, zz, true, false, 2⟩ := by simp [obAt, hE1]
  have hEv := Ev1.grp (C := X) (f := 29) (H := H) (o := 0) (n := 2) (t := t') (π := [0, a]) (new := []) (xs := []) (ys := []) (lents := []) (l := [.int .i64 (ckN s : Nat), .int .i64 (ckE s)]) (evT_below X) Try.func29 hcode rfl hπ hin0 (by rfl) rfl rfl rfl (by simp [gtag])
    (by simp only [List.map_cons, List.map_nil, hat0, hata, tagsObjs, tagsOb, rdBx, tagsRd]; simpa [tags] using hj)
    (by rw [hent, par29]; exact hrun) (.inr rfl) rfl
    (by
      have : reach E reachFuel [0, 1] [] = [0, 1] := by
        show reach E (99996 + 1 + 1 + 1 + 1) [0, 1] [] = [0, 1]
        simp [reach, hE0, hE1, rdBx, Rd.pay, ids, idsL]
      show (reach E reachFuel ([0, 1] ++ ids (resultV _)) []).filter _ = []
      rw [show ids (resultV [AV.int .i64 (ckN s : Nat), .int .i64 (ckE s)]) = [] by simp [resultV, noTups, ids, idsL], List.append_nil, this]
      rfl)
    (by simp [resultV, noTups, tags, tagsL])
    (by
      intro k hk ob hob
      rcases hk with hk | hk
      · simp only [List.length_cons, List.length_nil] at hk
        have : k = 0 ∨ k = 1 := by omega
        rcases this with rfl | rfl
        · rw [hoE0] at hob; obtain rfl := Option.some.inj hob
          exact ⟨⟨by simp [rdBx, Rd.pay, tags, tagsL], .inr rfl⟩, by simp [rdBx, Rd.pay]⟩
        · rw [hoE1] at hob; obtain rfl := Option.some.inj hob
          exact ⟨⟨by simp [tags], .inr rfl⟩, by simp⟩
      · cases hk)
  refine ⟨_, evT_eq (by simpa [resultV, noTups, ren, renL] using hEv), ?_, by rw [putBack_length], ?_⟩
  · have hlE1 : live E 1 0 = some ⟨.pb L, 0, cap, zz, true, false, 2⟩ := by simp [live, hE1]
    have hg1 : genBack H [0, a] 1 0 = gg := by simp [genBack, hata]
    have hg0 : genBack H [0, a] 0 0 = 0 := by simp [genBack, hat0, rdBx]
    have hb1 : backN H [0, a] [] E 1 0 = some (a, gg) := by unfold backN; rw [hlE1]; simp [hg1]
    have hbk : bk 2 t' 2 = t' := by simp [bk]
    have hp0 := putBack_at (ρ := backN H [0, a] [] E) (τ := bk 2 t') (H := H) (π := [0, a]) (H1 := E) [0, a] 0 0 0 H (by simp [Ne.symm ha0]) rfl (at_lt h0)
    have hp1 := putBack_at (ρ := backN H [0, a] [] E) (τ := bk 2 t') (H := H) (π := [0, a]) (H1 := E) [0, a] 0 1 a H (by simp [Ne.symm ha0]) rfl (at_lt ho)
    rw [Nat.zero_add, hoE0] at hp0
    rw [Nat.zero_add, hoE1] at hp1
    simp only [Option.map_some, renObj, rdBx, Rd.pay, ren, renL, hb1, hbk, hg0, hg1] at hp0 hp1
    exact ⟨⟨.sl a off s.rest.length gg, .ro 0 .pn t', t', ht', by simpa [rdBx, Rd.pay] using hp0, ⟨off, gg, t', _, L, ht', rfl, hp1, ⟨rfl, rfl, rfl, rfl, rfl⟩, hl, hle, hLb⟩, ⟨t', ht', rfl, hbody⟩⟩, a0⟩
  · intro j hj0 hja
    rw [putBack_ne _ _ _ (by simp [hj0, hja])]

set_option maxRecDepth 100000 in
set_option maxHeartbeats 4000000 in
/-- the head looked at; a body -/
theorem ck_ev2 {c : Nat} (h : RdI 3 H s a (some c)) (h4 : 4 ≤ s.rest.length) (hrl : s.rest.length ≤ 1000000) (hbl : s.body.length ≤ 1000000000) (hnx : s.nx < 256) :
    ∃ H', evT X 29 [.ptr 0 0 0 0] H = some (.tup [.int .i64 (ckN s : Nat), .int .i64 (ckE s)], H') ∧ RdI 3 H' s a (some c) ∧ H'.length = H.length ∧ ∀ j, j ≠ 0 → j ≠ a → j ≠ c → H'[j]? = H[j]? := by
  obtain ⟨⟨vr, vb, τ, hτ, h0, hr, hb⟩, a0⟩ := h
  obtain ⟨off, g, τ1, ob, L, hτ1, rfl, ho, hw, hl, hle, hLb⟩ := hr
  obtain ⟨⟨off2, g2, τ2, ob2, L2, hτ2, rfl, ho2, hw2, hl2, hle2, hLb2⟩, hc0, hca⟩ := hb
  obtain ⟨p, gg, cap, zz, row, ids', tg⟩ := ob
  obtain ⟨q1, q2, q3, q4, q5⟩ := hw
  simp only at q1 q2 q3 q4 q5
  subst q1 q2 q3 q4 q5
  obtain ⟨p2, gg2, cap2, zz2, row2, ids2, tg2⟩ := ob2
  obtain ⟨q1, q2, q3, q4, q5⟩ := hw2
  simp only at q1 q2 q3 q4 q5
  subst q1 q2 q3 q4 q5
  have hπ : reach H reachFuel [0] [] = [0, a, c] := reach3 h0 rfl (by simp [rdBx, Rd.pay, ids, idsL]) ho rfl ho2 rfl (by omega) (by omega) hca
  have hl0 : live H 0 0 = some (rdBx s (.sl a off s.rest.length gg) (.sl c off2 s.body.length gg2) τ) := by simp [live, h0, rdBx]
  have hla : live H a gg = some ⟨.pb L, gg, cap, zz, true, false, tg⟩ := by simp [live, ho]
  have hlc : live H c gg2 = some ⟨.pb L2, gg2, cap2, zz2, true, false, tg2⟩ := by simp [live, ho2]
  have ha0 : a ≠ 0 := by omega
  have hc0' : c ≠ 0 := by omega
  have hin0 : intoN H [0, a, c] 0 0 = some (0, 0) := by simp [intoN, hl0, idxOf]
  have hina : intoN H [0, a, c] a gg = some (1, 0) := by simp [intoN, hla, idxOf, Ne.symm ha0]
  have hinc : intoN H [0, a, c] c gg2 = some (2, 0) := by simp [intoN, hlc, idxOf, Ne.symm hc0', Ne.symm hca]
  have hatc : obAt H c = some ⟨.pb L2, gg2, cap2, zz2, true, false, tg2⟩ := by simp [obAt, ho2]
  have hat0 : obAt H 0 = some (rdBx s (.sl a off s.rest.length gg) (.sl c off2 s.body.length gg2) τ) := by simp [obAt, h0]
  have hata : obAt H a = some ⟨.pb L, gg, cap, zz, true, false, tg⟩ := by simp [obAt, ho]
  obtain ⟨t', ht', hj⟩ := join2 hτ1 hτ2
  have hent : ([0, a, c].map fun o => (obAt H o).map (renObj (intoN H [0, a, c]) (fun _ => 2) 0)) = [some (rdBx s (.sl 1 off s.rest.length 0) (.sl 2 off2 s.body.length 0) 2), some ⟨.pb L, 0, cap, zz, true, false, 2⟩, some ⟨.pb L2, 0, cap2, zz2, true, false, 2⟩] := by
    simp [hat0, hata, hatc, renObj, rdBx, Rd.pay, ren, renL, hina, hinc]
  generalize hE : [some (rdBx s (.sl 1 off s.rest.length 0) (.sl 2 off2 s.body.length 0) 2), some (⟨.pb L, 0, cap, zz, true, false, 2⟩ : AM.Obj), some (⟨.pb L2, 0, cap2, zz2, true, false, 2⟩ : AM.Obj)] = E at *
  have hE0 : E[0]? = some (some (rdBx s (.sl 1 off s.rest.length 0) (.sl 2 off2 s.body.length 0) 2)) := by rw [← hE]; rfl
  have hE1 : E[1]? = some (some ⟨.pb L, 0, cap, zz, true, false, 2⟩) := by rw [← hE]; rfl
  have hE2 : E[2]? = some (some ⟨.pb L2, 0, cap2, zz2, true, false, 2⟩) := by rw [← hE]; rfl
  obtain ⟨code, hcode, hrun⟩ := ck_code (s := s) (.sl 1 off s.rest.length 0) (.sl 2 off2 s.body.length 0) E 3 hE0 ⟨off, 0, 2, _, L, .inr rfl, rfl, hE1, ⟨rfl, rfl, rfl, rfl, rfl⟩, hl, hle, hLb⟩ (.inr ⟨off2, 0, 2, _, L2, .inr rfl, rfl, hE2, ⟨rfl, rfl, rfl, rfl, rfl⟩, hl2, hle2, hLb2⟩) h4 hrl hbl hnx
  have hoE0 : obAt E 0 = some (rdBx s (.sl 1 off s.rest.length 0) (.sl 2 off2 s.body.length 0) 2) := by simp [obAt, hE0]
  have hoE1 : obAt E 1 = some ⟨.pb L, 0, cap, zz, true, false, 2⟩ := by simp [obAt, hE1]
  have hoE2 : obAt E 2 = some ⟨.pb L2, 0, cap2, zz2, true, false, 2⟩ := by simp [obAt, hE2]
  have hEv := Ev1.grp (C := X) (f := 29) (H := H) (o := 0) (n := 2) (t := t') (π := [0, a, c]) (new := []) (xs := []) (ys := []) (lents := []) (l := [.int .i64 (ckN s : Nat), .int .i64 (ckE s)]) (evT_below X) Try.func29 hcode rfl hπ hin0 (by rfl) rfl rfl rfl (by simp [gtag])
    (by simp only [List.map_cons, List.map_nil, hat0, hata, hatc, tagsObjs, tagsOb, rdBx, tagsRd]; simpa [tags] using hj)
    (by rw [hent, par29]; exact hrun) (.inr rfl) rfl
    (by
      have : reach E reachFuel [0, 1, 2] [] = [0, 1, 2] := by
        show reach E (99994 + 1 + 1 + 1 + 1 + 1 + 1) [0, 1, 2] [] = [0, 1, 2]
        simp [reach, hE0, hE1, hE2, rdBx, Rd.pay, ids, idsL]
      show (reach E reachFuel ([0, 1, 2] ++ ids (resultV _)) []).filter _ = []
      rw [show ids (resultV [AV.int .i64 (ckN s : Nat), .int .i64 (ckE s)]) = [] by simp [resultV, noTups, ids, idsL], List.append_nil, this]
      rfl)
    (by simp [resultV, noTups, tags, tagsL])
    (by
      intro k hk ob hob
      rcases hk with hk | hk
      · simp only [List.length_cons, List.length_nil] at hk
        have : k = 0 ∨ k = 1 ∨ k = 2 := by omega
        rcases this with rfl | rfl | rfl
        · rw [hoE0] at hob; obtain rfl := Option.some.inj hob
          exact ⟨⟨by simp [rdBx, Rd.pay, tags, tagsL], .inr rfl⟩, by simp [rdBx, Rd.pay]⟩
        · rw [hoE1] at hob; obtain rfl := Option.some.inj hob
          exact ⟨⟨by simp [tags], .inr rfl⟩, by simp⟩
        · rw [hoE2] at hob; obtain rfl := Option.some.inj hob
          exact ⟨⟨by simp [tags], .inr rfl⟩, by simp⟩
      · cases hk)
  refine ⟨_, evT_eq (by simpa [resultV, noTups, ren, renL] using hEv), ?_, by rw [putBack_length], ?_⟩
  · have hlE1 : live E 1 0 = some ⟨.pb L, 0, cap, zz, true, false, 2⟩ := by simp [live, hE1]
    have hlE2 : live E 2 0 = some ⟨.pb L2, 0, cap2, zz2, true, false, 2⟩ := by simp [live, hE2]
    have hg2 : genBack H [0, a, c] 2 0 = gg2 := by simp [genBack, hatc]
    have hg1 : genBack H [0, a, c] 1 0 = gg := by simp [genBack, hata]
    have hg0 : genBack H [0, a, c] 0 0 = 0 := by simp [genBack, hat0, rdBx]
    have hb1 : backN H [0, a, c] [] E 1 0 = some (a, gg) := by unfold backN; rw [hlE1]; simp [hg1]
    have hb2 : backN H [0, a, c] [] E 2 0 = some (c, gg2) := by unfold backN; rw [hlE2]; simp [hg2]
    have hbk : bk 2 t' 2 = t' := by simp [bk]
    have hp0 := putBack_at (ρ := backN H [0, a, c] [] E) (τ := bk 2 t') (H := H) (π := [0, a, c]) (H1 := E) [0, a, c] 0 0 0 H (by simp [Ne.symm ha0, Ne.symm hc0', Ne.symm hca]) rfl (at_lt h0)
    have hp1 := putBack_at (ρ := backN H [0, a, c] [] E) (τ := bk 2 t') (H := H) (π := [0, a, c]) (H1 := E) [0, a, c] 0 1 a H (by simp [Ne.symm ha0, Ne.symm hc0', Ne.symm hca]) rfl (at_lt ho)
    have hp2 := putBack_at (ρ := backN H [0, a, c] [] E) (τ := bk 2 t') (H := H) (π := [0, a, c]) (H1 := E) [0, a, c] 0 2 c H (by simp [Ne.symm ha0, Ne.symm hc0', Ne.symm hca]) rfl (at_lt ho2)
    rw [Nat.zero_add, hoE2] at hp2
    rw [Nat.zero_add, hoE0] at hp0
    rw [Nat.zero_add, hoE1] at hp1
    simp only [Option.map_some, renObj, rdBx, Rd.pay, ren, renL, hb1, hb2, hbk, hg0, hg1, hg2] at hp0 hp1 hp2
    exact ⟨⟨.sl a off s.rest.length gg, .sl c off2 s.body.length gg2, t', ht', by simpa [rdBx, Rd.pay] using hp0, ⟨off, gg, t', _, L, ht', rfl, hp1, ⟨rfl, rfl, rfl, rfl, rfl⟩, hl, hle, hLb⟩, ⟨⟨off2, gg2, t', _, L2, ht', rfl, hp2, ⟨rfl, rfl, rfl, rfl, rfl⟩, hl2, hle2, hLb2⟩, hc0, hca⟩⟩, a0⟩
  · intro j hj0 hja hjc
    rw [putBack_ne _ _ _ (by simp [hj0, hja, hjc])]

end

end Go.Proofs.Ytconnpileacfeaa

/- Walks: a reader fed: its regions. -/
namespace Go.Proofs.Ytconnpileacfeaa
open Go.AM
set_option linter.unusedSimpArgs false
set_option linter.unusedVariables false
variable {mm : Nat}

structure Pk where
  sq : Nat
  nx : Nat
  body : List UInt8

def nilK : AM.Obj := ⟨.pr 3 [], 0, .none, 0, true, false, 0⟩
theorem emK : rowOf (emptyRow X 40) .none 0 = nilK := by kernel_rfl

theorem ck_ev {H : AM.Heap} {s : Rd} {a : Nat} {oc : Option Nat} (h : RdI 3 H s a oc) (h4 : 4 ≤ s.rest.length) (hrl : s.rest.length ≤ 1000000) (hbl : s.body.length ≤ 1000000000) (hnx : s.nx < 256) :
    ∃ H', evT X 29 [.ptr 0 0 0 0] H = some (.tup [.int .i64 (ckN s : Nat), .int .i64 (ckE s)], H') ∧ RdI 3 H' s a oc ∧ H'.length = H.length ∧ ∀ j, j ≠ 0 → j ≠ a → (∀ c, oc = some c → j ≠ c) → H'[j]? = H[j]? := by
  cases oc with
  | none =>
    obtain ⟨H', h1, h2, h3, h4⟩ := ck_ev1 h h4 hrl hnx
    exact ⟨H', h1, h2, h3, fun j h5 h6 _ => h4 j h5 h6⟩
  | some c =>
    obtain ⟨H', h1, h2, h3, h4⟩ := ck_ev2 h h4 hrl hbl hnx
    exact ⟨H', h1, h2, h3, fun j h5 h6 h7 => h4 j h5 h6 (h7 c rfl)⟩

section
variable {H : AM.Heap} {s : Rd} {vr vb : AV} {τ : Nat}

def fdFr (O n g : Nat) (m : AM.Frame) : AM.Frame := [(0, .ptr 0 0 0 0), (6, .sl O 0 n g)] ++ m

set_option maxRecDepth 100000 in
set_option maxHeartbeats 4000000 in
/-- the payload begins -/
theorem fd_r14 (O N g n : Nat) (h0 : H[0]? = some (some (rdBx s vr vb τ))) :
    ∃ code, ((Try.f18.body).bind (codeAt [1, 1, 1, 1, 0, 0, 0, 1, 0, 1, 1, 1, 0, 1, 0])) = some code ∧ Run X (evT X) 18 mm code (fdFr O N g [(7, .int .i64 (n : Nat)), (58, .bool true)]) H ⟨.normal, fdFr O N g [(7, .int .i64 (n : Nat))], upd H 0 (some (rdBx { s with wi := true, sq := s.nx } vr vb τ))⟩ := by
  refine ⟨_, rfl, ?_⟩
  have h1 : (upd H 0 (some (rdBx { s with wi := true } vr vb τ)))[0]? = some (some (rdBx { s with wi := true } vr vb τ)) := at_set h0
  have hs : (upd H 0 (some (rdBx { s with wi := true } vr vb τ))).set 0 (some (rdBx { s with wi := true, sq := s.nx } vr vb τ)) = upd H 0 (some (rdBx { s with wi := true, sq := s.nx } vr vb τ)) := by unfold upd; simp
  unfold fdFr
  simp only [rdBx, Rd.pay, upd] at h0 h1 hs
  (refine ⟨0, ?_⟩; simp (maxSteps := 2000000) -implicitDefEqProofs [-getElem?_pos, List.getElem?_cons_zero, List.getElem?_cons_succ, go_sem, eqV, plen, loadV, storeV, h0, h1, hs, rdBx, Rd.pay])

set_option maxRecDepth 100000 in
set_option maxHeartbeats 4000000 in
/-- the rest cut -/
theorem fd_r16 (O N g n : Nat) (a off rl ga : Nat) (oa : AM.Obj) (L : List UInt8) (h0 : H[0]? = some (some (rdBx s (.sl a off rl ga) vb τ))) (ha : H[a]? = some (some oa)) (hw : oa.p = .pb L) (hg : oa.g = ga) (hn : 4 + n ≤ rl) (hL : off + rl = L.length) (hrl : rl ≤ 100000000) :
    ∃ code, ((Try.f18.body).bind (codeAt [1, 1, 1, 1, 0, 0, 0, 1, 0, 1, 1, 1, 1, 1, 0])) = some code ∧ Run X (evT X) 18 mm code (fdFr O N g [(7, .int .i64 (n : Nat))]) H ⟨.normal, fdFr O N g [(7, .int .i64 (n : Nat))], upd H 0 (some (rdBx s (.sl a (off + (4 + n)) (rl - (4 + n)) ga) vb τ))⟩ := by
  refine ⟨_, rfl, ?_⟩
  have w4 : IntKind.i64.wrap (4 + (n : Int)) = ((4 + n : Nat) : Int) := by rw [wrap_i64 (by omega) (by omega)]; omega
  have hsl : sliceV X H 22 (.sl a off rl ga) (some (.int .i64 ((4 + n : Nat) : Int))) none = some (.sl a (off + (4 + n)) (rl - (4 + n)) ga) := by
    have h1 : ((4 + n : Nat) : Int) ≤ (rl : Int) := by omega
    have h2 : 4 + n ≤ rl := hn
    have h3 : (4 : Int) + (n : Int) ≤ (rl : Int) := by omega
    have h4 : 0 ≤ (4 : Int) + (n : Int) := by omega
    have h5 : ((4 : Int) + (n : Int)).toNat = 4 + n := by omega
    simp [sliceV, bound, live, ha, hg, hw, pesz, h1, h2, h3, h4, h5]
  unfold fdFr
  simp only [rdBx, Rd.pay] at h0
  generalize 4 + n = n4 at *
  (refine ⟨0, ?_⟩; simp (maxSteps := 2000000) -implicitDefEqProofs [-getElem?_pos, List.getElem?_cons_zero, List.getElem?_cons_succ, go_sem, eqV, plen, loadV, storeV, h0, rdBx, Rd.pay, w4, hsl])

set_option maxRecDepth 100000 in
set_option maxHeartbeats 4000000 in
/-- the next number -/
theorem fd_r17 (O N g n : Nat) (hx : s.nx < 256) (h0 : H[0]? = some (some (rdBx s vr vb τ))) :
    ∃ code, ((Try.f18.body).bind (codeAt [1, 1, 1, 1, 0, 0, 0, 1, 0, 1, 1, 1, 1, 1, 1, 0])) = some code ∧ Run X (evT X) 18 mm code (fdFr O N g [(7, .int .i64 (n : Nat))]) H ⟨.normal, fdFr O N g [(7, .int .i64 (n : Nat))], upd H 0 (some (rdBx { s with nx := (s.nx + 1) % 256 } vr vb τ))⟩ := by
  refine ⟨_, rfl, ?_⟩
  have w8 := wrap8 hx
  unfold fdFr
  simp only [rdBx, Rd.pay] at h0
  (refine ⟨0, ?_⟩; simp (maxSteps := 2000000) -implicitDefEqProofs [-getElem?_pos, List.getElem?_cons_zero, List.getElem?_cons_succ, go_sem, eqV, plen, loadV, storeV, h0, rdBx, Rd.pay, w8])

set_option maxRecDepth 100000 in
set_option maxHeartbeats 4000000 in
/-- the body, behind nothing -/
theorem fd_r15n (O N g n : Nat) (tl : AM.Frame) (htl : tl = [] ∨ tl = [(58, .bool false)]) (a off rl ga τ2 : Nat) (oa : AM.Obj) (L : List UInt8) (h0 : H[0]? = some (some (rdBx s (.sl a off rl ga) (.ro 0 .pn τ2) τ))) (ha : H[a]? = some (some oa)) (hw : oa.p = .pb L) (hg : oa.g = ga) (hi : oa.ids = false) (hn : 4 + n ≤ rl) (hL : off + rl = L.length) (hrl : rl ≤ 10000000) :
    ∃ code, ((Try.f18.body).bind (codeAt [1, 1, 1, 1, 0, 0, 0, 1, 0, 1, 1, 1, 1, 0])) = some code ∧ Run X (evT X) 18 mm code (fdFr O N g ((7, .int .i64 (n : Nat)) :: tl)) H ⟨.normal, fdFr O N g [(7, .int .i64 (n : Nat))], upd (H ++ [some ⟨.pb (((L.drop off).drop 4).take n), 0, .none, 0, true, false, 0⟩]) 0 (some (rdBx s (.sl a off rl ga) (.sl H.length 0 n 0) τ))⟩ := by
  refine ⟨_, rfl, ?_⟩
  have w4 : IntKind.i64.wrap (4 + (n : Int)) = ((4 + n : Nat) : Int) := by rw [wrap_i64 (by omega) (by omega)]; omega
  have hsl : sliceV X H 22 (.sl a off rl ga) (some (.int .i64 4)) (some (.int .i64 ((4 + n : Nat) : Int))) = some (.sl a (off + 4) n ga) := by
    have h1 : ((4 + n : Nat) : Int) ≤ (rl : Int) := by omega
    have h2 : 4 + n ≤ rl := hn
    have h3 : (4 : Int) + (n : Int) ≤ (rl : Int) := by omega
    have h4 : 0 ≤ (4 : Int) + (n : Int) := by omega
    have h5 : ((4 : Int) + (n : Int)).toNat = 4 + n := by omega
    have h6 : 4 ≤ 4 + n := by omega
    have h7 : L.length - off = rl := by omega
    have h8 : (4 : Int) ≤ (4 : Int) + (n : Int) := by omega
    simp [sliceV, bound, live, ha, hg, hw, pesz, plen, h7, h1, h2, h3, h4, h5, h6, h8]
  have hlen : (((L.drop off).drop 4).take n).length = n := by rw [List.length_take, List.length_drop, List.length_drop]; omega
  have hsrc : srcV H (.sl a (off + 4) n ga) = some (.pb (((L.drop off).drop 4).take n), 0) := by
    have h1 : off + 4 + n ≤ L.length := by omega
    simp [srcV, live, ha, hg, hi, hw, psub, h1, payB, ptag, List.drop_drop]
  have hA : appendV X H 22 (.ro 0 .pn τ2) (.sl a (off + 4) n ga) = some (.sl H.length 0 n 0, H ++ [some ⟨.pb (((L.drop off).drop 4).take n), 0, .none, 0, true, false, 0⟩]) := by
    have hroom : roomOk X 5 n = true := by simp [roomOk]; omega
    generalize ((L.drop off).drop 4).take n = pc at *
    simp only [appendV, und22, size5, zok5, hsrc]
    simp [payB, plen, hlen, hroom, papp, emptyRow, pesz]
  generalize ((L.drop off).drop 4).take n = pc at *
  have h0' : (H ++ [some (⟨.pb pc, 0, .none, 0, true, false, 0⟩ : AM.Obj)])[0]? = some (some (rdBx s (.sl a off rl ga) (.ro 0 .pn τ2) τ)) := at_cat h0
  unfold fdFr
  simp only [rdBx, Rd.pay] at h0 h0'
  generalize H ++ [some (⟨.pb pc, 0, .none, 0, true, false, 0⟩ : AM.Obj)] = HV at *
  generalize 4 + n = n4 at *
  rcases htl with rfl | rfl
  · (refine ⟨0, ?_⟩; simp (maxSteps := 2000000) -implicitDefEqProofs [-getElem?_pos, List.getElem?_cons_zero, List.getElem?_cons_succ, go_sem, eqV, plen, loadV, storeV, h0, h0', rdBx, Rd.pay, w4, hsl, hA])
  · (refine ⟨0, ?_⟩; simp (maxSteps := 2000000) -implicitDefEqProofs [-getElem?_pos, List.getElem?_cons_zero, List.getElem?_cons_succ, go_sem, eqV, plen, loadV, storeV, h0, h0', rdBx, Rd.pay, w4, hsl, hA])

set_option maxRecDepth 100000 in
set_option maxHeartbeats 4000000 in
/-- the body, behind what there is -/
theorem fd_r15s (O N g n : Nat) (tl : AM.Frame) (htl : tl = [] ∨ tl = [(58, .bool false)]) (a off rl ga c off2 bl gc τ2 : Nat) (oa ob : AM.Obj) (L L2 : List UInt8) (h0 : H[0]? = some (some (rdBx s (.sl a off rl ga) (.sl c off2 bl gc) τ))) (ha : H[a]? = some (some oa)) (hw : oa.p = .pb L) (hg : oa.g = ga) (hi : oa.ids = false) (hn : 4 + n ≤ rl) (hL : off + rl = L.length) (hrl : rl ≤ 10000000)
    (hc : H[c]? = some (some ob)) (hwc : RwT (.pb L2) gc τ2 ob) (hb : bl = (L2.drop off2).length) (hoff : off2 ≤ L2.length) (hLL : L2.length ≤ 10000000) (c0 : 0 < c) :
    ∃ ob', RwT (.pb (L2.drop off2 ++ ((L.drop off).drop 4).take n)) (gc + 1) τ2 ob' ∧ ∃ code, ((Try.f18.body).bind (codeAt [1, 1, 1, 1, 0, 0, 0, 1, 0, 1, 1, 1, 1, 0])) = some code ∧ Run X (evT X) 18 mm code (fdFr O N g ((7, .int .i64 (n : Nat)) :: tl)) H ⟨.normal, fdFr O N g [(7, .int .i64 (n : Nat))], upd (upd H c (some ob')) 0 (some (rdBx s (.sl a off rl ga) (.sl c 0 (bl + n) (gc + 1)) τ))⟩ := by
  have w4 : IntKind.i64.wrap (4 + (n : Int)) = ((4 + n : Nat) : Int) := by rw [wrap_i64 (by omega) (by omega)]; omega
  have hsl : sliceV X H 22 (.sl a off rl ga) (some (.int .i64 4)) (some (.int .i64 ((4 + n : Nat) : Int))) = some (.sl a (off + 4) n ga) := by
    have h1 : ((4 + n : Nat) : Int) ≤ (rl : Int) := by omega
    have h2 : 4 + n ≤ rl := hn
    have h3 : (4 : Int) + (n : Int) ≤ (rl : Int) := by omega
    have h4 : 0 ≤ (4 : Int) + (n : Int) := by omega
    have h5 : ((4 : Int) + (n : Int)).toNat = 4 + n := by omega
    have h6 : 4 ≤ 4 + n := by omega
    have h7 : L.length - off = rl := by omega
    have h8 : (4 : Int) ≤ (4 : Int) + (n : Int) := by omega
    simp [sliceV, bound, live, ha, hg, hw, pesz, plen, h7, h1, h2, h3, h4, h5, h6, h8]
  have hlen : (((L.drop off).drop 4).take n).length = n := by rw [List.length_take, List.length_drop, List.length_drop]; omega
  have hsrc : srcV H (.sl a (off + 4) n ga) = some (.pb (((L.drop off).drop 4).take n), 0) := by
    have h1 : off + 4 + n ≤ L.length := by omega
    simp [srcV, live, ha, hg, hi, hw, psub, h1, payB, ptag, List.drop_drop]
  obtain ⟨ob', hw', hA⟩ := app_off (C := X) (T := 22) (e := 5) (by simp) (und5) (by simp) (by simp) (by simp) hc hwc hoff (.inl hsrc) (by rw [hlen]; omega)
  rw [← hb, hlen] at hA
  refine ⟨ob', hw', _, rfl, ?_⟩
  have h0' : (upd H c (some ob'))[0]? = some (some (rdBx s (.sl a off rl ga) (.sl c off2 bl gc) τ)) := at_ne h0 (by omega)
  generalize ((L.drop off).drop 4).take n = pc at *
  unfold fdFr
  simp only [rdBx, Rd.pay] at h0 h0'
  generalize upd H c (some ob') = HV at *
  generalize 4 + n = n4 at *
  rcases htl with rfl | rfl
  · (refine ⟨0, ?_⟩; simp (maxSteps := 2000000) -implicitDefEqProofs [-getElem?_pos, List.getElem?_cons_zero, List.getElem?_cons_succ, go_sem, eqV, plen, loadV, storeV, h0, h0', rdBx, Rd.pay, w4, hsl, hA])
  · (refine ⟨0, ?_⟩; simp (maxSteps := 2000000) -implicitDefEqProofs [-getElem?_pos, List.getElem?_cons_zero, List.getElem?_cons_succ, go_sem, eqV, plen, loadV, storeV, h0, h0', rdBx, Rd.pay, w4, hsl, hA])

end

end Go.Proofs.Ytconnpileacfeaa

/- Walks: a reader fed: a payload told. -/
namespace Go.Proofs.Ytconnpileacfeaa
open Go.AM
set_option linter.unusedSimpArgs false
set_option linter.unusedVariables false

/-- a payload as a cell of a row -/
def PkA (t : Nat) (p : Pk) (v : AV) : Prop := ∃ cb τ, (τ = 0 ∨ τ = t) ∧ (cb = 0 → p.body = []) ∧ cb ≤ 2 ∧ v = .pc [.int .u8 (p.sq : Nat), .int .u8 (p.nx : Nat), .ro cb (.pb p.body) τ]
/-- payloads as a row's cells -/
def PkL (t : Nat) : List Pk → List AV → Prop
  | [], [] => True
  | p :: r, v :: l => PkA t p v ∧ PkL t r l
  | _, _ => False
/-- a row of payloads, as it lies -/
def PkR (t : Nat) (H : AM.Heap) (O n g : Nat) (out : List Pk) : Prop := ∃ l ob τ, (τ = 0 ∨ τ = t) ∧ PkL t out l ∧ n = out.length ∧ H[O]? = some (some ob) ∧ RwT (.pr 3 l) g τ ob

theorem joinTag2 {a b t : Nat} (ha : a = 0 ∨ a = t) (hb : b = 0 ∨ b = t) : ∃ t', (t' = 0 ∨ t' = t) ∧ joinTag a b = some t' := by
  unfold joinTag
  by_cases h0 : a = 0
  · rw [if_pos h0]; exact ⟨b, hb, rfl⟩
  · rw [if_neg h0]
    have : a = t := by rcases ha with h | h; exact absurd h h0; exact h
    by_cases h1 : b = 0
    · rw [if_pos (.inl h1)]; exact ⟨a, ha, rfl⟩
    · have : b = t := by rcases hb with h | h; exact absurd h h1; exact h
      rw [if_pos (.inr (by omega))]; exact ⟨a, ha, rfl⟩

theorem f2_len {t : Nat} : ∀ {l : List Pk} {m : List AV}, PkL t l m → l.length = m.length
  | [], [], _ => rfl
  | p :: r, v :: l, h => by rw [List.length_cons, List.length_cons, f2_len h.2]
  | [], _ :: _, h => h.elim
  | _ :: _, [], h => h.elim
theorem f2_snoc {t : Nat} {a : Pk} {b : AV} : ∀ {l : List Pk} {m : List AV}, PkL t l m → PkA t a b → PkL t (l ++ [a]) (m ++ [b])
  | [], [], _, hab => ⟨hab, trivial⟩
  | p :: r, v :: l, h, hab => ⟨h.1, f2_snoc h.2 hab⟩
  | [], _ :: _, h, _ => h.elim
  | _ :: _, [], h, _ => h.elim

/-- a payload put behind others -/
theorem app_pk {t : Nat} {H : AM.Heap} {O n g τ2 : Nat} {out : List Pk} {p : Pk} {v src : AV} (h : PkR t H O n g out) (hp : PkA t p v) (h2 : τ2 = 0 ∨ τ2 = t) (hsrc : srcV H src = some (.pr 3 [v], τ2)) (hn : n ≤ 1000000) :
    ∃ H', PkR t H' O (n + 1) (g + 1) (out ++ [p]) ∧ (∀ j, j ≠ O → H'[j]? = H[j]?) ∧ H'.length = H.length ∧ appendV X H 29 (.sl O 0 n g) src = some (.sl O 0 (n + 1) (g + 1), H') := by
  obtain ⟨l, ob, τ, hτ, hf, hn2, ho, hw⟩ := h
  have hl := f2_len hf
  have hlive : live H O g = some ob := by simp [live, ho, hw.g]
  obtain ⟨t', ht', hj⟩ := joinTag2 hτ h2
  have hroom : roomOk X 40 (n + 1) = true := by simp [roomOk]; omega
  refine ⟨upd H O (some { ob with p := .pr 3 (l ++ [v]), g := g + 1, cap := (match ob.cap with | some c => if 0 + n + 1 ≤ c then some (c - 0) else none | none => none), z := (if AM.plen ob.p = 0 then ob.z else 1), tg := t' }), ⟨l ++ [v], _, t', ht', f2_snoc hf hp, by simp [hn2], at_set ho, ⟨rfl, rfl, hw.row, hw.ids, rfl⟩⟩, fun j hj => by unfold upd; rw [List.getElem?_set_ne (Ne.symm hj)], by simp [upd], ?_⟩
  unfold appendV
  have hsz : sizeT X 40 = 3 := by kernel_rfl
  have hz : zeroOk X 40 = true := by kernel_rfl
  have hu : und X 29 = .slice 40 := by kernel_rfl
  simp only [hu, hsz, hz, hsrc, hlive, hw.row, hw.ids, hw.p, hw.tg]
  simp only [show ¬ ((3 : Nat) = 0 ∨ true = false) by simp, if_false]
  have hc : True ∧ True ∧ 0 + n = AM.plen (.pr 3 l) ∧ pesz (.pr 3 l) = 3 ∧ roomOk X 40 (n + AM.plen (.pr 3 [v])) = true := ⟨trivial, trivial, by simp [AM.plen]; omega, rfl, hroom⟩
  rw [if_pos hc]
  have hps : psub (.pr 3 l) 0 n = some (.pr 3 l) := by
    have : n = l.length := by omega
    subst this
    simp [psub]
  simp only [hps, papp, if_true, hj, pesz]
  simp [AM.plen]
  rfl

theorem mkRowPk (l : List AV) : mkRow X 40 l = (asRows 3 l).map (.pr 3) := by kernel_rfl

theorem bsPk {H : AM.Heap} {c off bl gc τ : Nat} {ob : AM.Obj} {L : List UInt8} (x y : Int) (hc : H[c]? = some (some ob)) (hw : RwT (.pb L) gc τ ob) (hL : off + bl ≤ L.length) (ht : τ = 0 ∨ τ = 3) :
    ∃ cb, (cb = 0 → L = []) ∧ cb ≤ 2 ∧ buildSliceV X H 29 1 [(0, .agg (.pc [.int .u8 x, .int .u8 y, .sl c off bl gc]))] = some (.ro 1 (.pr 3 [.pc [.int .u8 x, .int .u8 y, .ro cb (.pb ((L.drop off).take bl)) τ]]) τ, upd H c none) := by
  have hsz : sizeT X 40 = 3 := by kernel_rfl
  have hu : und X 29 = .slice 40 := by kernel_rfl
  have hz : cellsAV (zeroAV X 40) = [.int .u8 0, .int .u8 0, .ro 0 .pn 0] := by kernel_rfl
  have hns : noSl X 6 40 = false := by kernel_rfl
  have hmk : ∀ l, mkRow X 40 l = (asRows 3 l).map (.pr 3) := mkRowPk
  have hlive : live H c gc = some ob := by simp [live, hc, hw.g]
  have hps : psub (.pb L) off bl = some (.pb ((L.drop off).take bl)) := by simp [psub, hL]
  refine ⟨if ob.z = 0 ∧ AM.plen ob.p = 0 then 0 else 2, fun h0 => ?_, by split <;> omega, ?_⟩
  · split at h0
    · rename_i hz
      have := hz.2
      rw [hw.p] at this
      exact List.eq_nil_of_length_eq_zero this
    · cases h0
  · generalize hcb : (if ob.z = 0 ∧ AM.plen ob.p = 0 then 0 else 2) = cb
    unfold buildSliceV
    simp only [hu, hsz, hz]
    rw [if_pos ⟨by omega, by omega, rfl, rfl⟩]
    have hj : joinTags [τ] = some τ := joinTags_one τ
    have hset : setParts 3 (List.replicate 1 (zeroAV X 40)) [(0, .agg (.pc [.int .u8 x, .int .u8 y, .sl c off bl gc]))] = some [.agg (.pc [.int .u8 x, .int .u8 y, .sl c off bl gc])] := by
      simp [setParts, cellsAV, cellsOf, scalars, scalar]
    rw [hset]
    have hfr : freezePs H [.agg (.pc [.int .u8 x, .int .u8 y, .sl c off bl gc])] = some ([.agg (.pc [.int .u8 x, .int .u8 y, .ro cb (.pb ((L.drop off).take bl)) τ])], upd H c none) := by
      simp only [freezePs, freezeP, freezeL, freezeV, hlive, hw.ids, hw.tg]
      rw [hw.p] at hcb ⊢
      simp [hps, hcb]
    simp only [hns, hfr]
    simp [idsL, ids, litRow, hmk, asRows, rowCells, scalars, scalar, tagsL, tags, joinTags_one]

end Go.Proofs.Ytconnpileacfeaa

/- Walks: a reader fed: a payload told, the body emptied. -/
namespace Go.Proofs.Ytconnpileacfeaa
open Go.AM
set_option linter.unusedSimpArgs false
set_option linter.unusedVariables false
variable {mm : Nat}

theorem bdPk (x y : Int) (c o b g : Nat) : buildV X 40 [(0, .int .u8 x), (1, .int .u8 y), (2, .sl c o b g)] = some (.agg (.pc [.int .u8 x, .int .u8 y, .sl c o b g])) := by kernel_rfl

section
variable {H : AM.Heap} {s : Rd} {vr : AV} {τ : Nat}

set_option maxRecDepth 100000 in
set_option maxHeartbeats 4000000 in
theorem fd_r19 (O N g : Nat) (out : List Pk) (c off2 bl gc τ2 : Nat) (ob : AM.Obj) (L2 : List UInt8) (h0 : H[0]? = some (some (rdBx s vr (.sl c off2 bl gc) τ))) (hc : H[c]? = some (some ob)) (hw : RwT (.pb L2) gc τ2 ob) (hτ2 : τ2 = 0 ∨ τ2 = 3) (hoff : off2 + bl ≤ L2.length) (hbl : bl = ((L2.drop off2).take bl).length) (hout : PkR 3 H O N g out) (hN : N ≤ 1000000) (c0 : 0 < c) (hcO : c ≠ O) (hO : 0 < O) :
    ∃ H', PkR 3 H' O (N + 1) (g + 1) (out ++ [⟨s.sq, s.nx, (L2.drop off2).take bl⟩]) ∧ (∀ j, j ≠ O → j ≠ c → H'[j]? = H[j]?) ∧ H'.length = H.length ∧ H'[c]? = some none ∧ ∃ code, ((Try.f18.body).bind (codeAt [1, 1, 1, 1, 0, 0, 0, 1, 0, 1, 1, 1, 1, 1, 1, 1, 1, 0, 0])) = some code ∧ Run X (evT X) 18 mm code (fdFr O N g [(106, .bool true)]) H ⟨.normal, fdFr O (N + 1) (g + 1) [], H'⟩ := by
  obtain ⟨cb, hcb, hcb2, hbs⟩ := bsPk (s.sq : Nat) (s.nx : Nat) hc hw hoff hτ2
  have hout2 : PkR 3 (upd H c none) O N g out := by
    obtain ⟨l, ob, τ, h1, h2, h3, h4, h5⟩ := hout
    exact ⟨l, ob, τ, h1, h2, h3, at_ne h4 hcO, h5⟩
  obtain ⟨H', q1, q2, q3, hA⟩ := app_pk (p := ⟨s.sq, s.nx, (L2.drop off2).take bl⟩) (v := .pc [.int .u8 (s.sq : Nat), .int .u8 (s.nx : Nat), .ro cb (.pb ((L2.drop off2).take bl)) τ2]) (src := .ro 1 (.pr 3 [.pc [.int .u8 (s.sq : Nat), .int .u8 (s.nx : Nat), .ro cb (.pb ((L2.drop off2).take bl)) τ2]]) τ2) hout2 ⟨cb, τ2, hτ2, fun h => by rw [hcb h]; simp, hcb2, rfl⟩ hτ2 (by simp [srcV, payB, ptag]) hN
  refine ⟨H', q1, fun j h1 h2 => by rw [q2 j h1]; unfold upd; rw [List.getElem?_set_ne (Ne.symm h2)], by rw [q3]; simp [upd], by rw [q2 c hcO]; unfold upd; rw [List.getElem?_set_self (at_lt hc)], _, rfl, ?_⟩
  have hbv := bdPk (s.sq : Nat) (s.nx : Nat) c off2 bl gc
  unfold fdFr
  simp only [rdBx, Rd.pay] at h0
  simp only [upd] at hbs hA
  (refine ⟨0, ?_⟩; simp (maxSteps := 2000000) -implicitDefEqProofs [-getElem?_pos, List.getElem?_cons_zero, List.getElem?_cons_succ, go_sem, eqV, plen, loadV, storeV, h0, rdBx, Rd.pay, hbv, hbs, hA, assignV])

set_option maxRecDepth 100000 in
set_option maxHeartbeats 4000000 in
theorem fd_r20 (vb : AV) (O N g : Nat) (h0 : H[0]? = some (some (rdBx s vr vb τ))) :
    ∃ code, ((Try.f18.body).bind (codeAt [1, 1, 1, 1, 0, 0, 0, 1, 0, 1, 1, 1, 1, 1, 1, 1, 1, 0, 1])) = some code ∧ Run X (evT X) 18 mm code (fdFr O N g []) H ⟨.normal, fdFr O N g [], upd H 0 (some (rdBx { s with wi := false } vr (.ro 0 .pn 0) τ))⟩ := by
  refine ⟨_, rfl, ?_⟩
  have h1 : (upd H 0 (some (rdBx s vr (.ro 0 .pn 0) τ)))[0]? = some (some (rdBx s vr (.ro 0 .pn 0) τ)) := at_set h0
  have hs : (upd H 0 (some (rdBx s vr (.ro 0 .pn 0) τ))).set 0 (some (rdBx { s with wi := false } vr (.ro 0 .pn 0) τ)) = upd H 0 (some (rdBx { s with wi := false } vr (.ro 0 .pn 0) τ)) := by unfold upd; simp
  unfold fdFr
  simp only [rdBx, Rd.pay, upd] at h0 h1 hs
  (refine ⟨0, ?_⟩; simp (maxSteps := 2000000) -implicitDefEqProofs [-getElem?_pos, List.getElem?_cons_zero, List.getElem?_cons_succ, go_sem, eqV, plen, loadV, storeV, h0, h1, hs, rdBx, Rd.pay])

end

end Go.Proofs.Ytconnpileacfeaa
