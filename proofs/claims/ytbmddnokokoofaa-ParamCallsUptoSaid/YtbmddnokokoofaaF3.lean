/- Walks: Own and Kept. -/
import Derived.Test.YtbmddnokokoofaaF2
import Derived.Test.YtbmddnokokoofaaAm3
namespace Go.Proofs.Ytbmddnokokoofaa
open Go.AM
set_option linter.unusedSimpArgs false
set_option linter.unusedVariables false

def e8 : List UInt8 := [165, 165, 165, 165, 165, 165, 165, 165]

theorem bs8 (H : AM.Heap) : buildSliceV X H 22 8 [(0, .int .u8 165), (1, .int .u8 165), (2, .int .u8 165), (3, .int .u8 165), (4, .int .u8 165), (5, .int .u8 165), (6, .int .u8 165), (7, .int .u8 165)] = some (.ro 1 (.pb e8) 0, H) := by kernel_rfl

theorem mk0 {n : Nat} (hn : n ≤ 1000000) (H : AM.Heap) : makeSliceV X H 22 (.int .i64 0) (.int .i64 (n : Nat)) = some (.sl H.length 0 0 0, H ++ [some ⟨.pb [], 0, some n, 1, true, false, 0⟩]) := by
  have hz : ∀ n, zeroRow X 5 n = some (.pb (List.replicate n 0)) := fun n => by simp [zeroRow, cellsAV, scalars, scalar, idsL, ids, tagsL, tags]
  have h0 : (0 : Int) ≤ n := by omega
  have h1 : (n : Int) ≤ 9223372036854775807 := by omega
  have h2 : (n : Int) ≤ 140737488355328 := by omega
  simp [makeSliceV, hz, h0, h1, h2, rowOf]

theorem pieceF {O : Option Code} {P : Code → Prop} (h : ∃ code, O = some code ∧ P code) (code' : Code) (h' : O = some code') : P code' := by
  obtain ⟨c, h1, h2⟩ := h
  rw [h'] at h1
  exact (Option.some.inj h1) ▸ h2

noncomputable def ownO : Option Code := ((Try.f13.body).bind cR).bind cL

set_option maxRecDepth 100000 in
theorem own_r1 {c n8 : Nat} {b E : List UInt8} {ob0 ob1 ob2 : AM.Obj} (w8 : IntKind.i64.wrap ((b.length : Int) + 8) = (n8 : Nat))
    (hM : makeSliceV X [some nilB] 22 (.int .i64 0) (.int .i64 (n8 : Nat)) = some (.sl 1 0 0 0, [some nilB, some ob0]))
    (hA1 : appendV X [some nilB, some ob0] 22 (.sl 1 0 0 0) (.ro c (.pb b) 1) = some (.sl 1 0 b.length 1, [some nilB, some ob1]))
    (hb8 : ∀ H, buildSliceV X H 22 8 [(0, .int .u8 165), (1, .int .u8 165), (2, .int .u8 165), (3, .int .u8 165), (4, .int .u8 165), (5, .int .u8 165), (6, .int .u8 165), (7, .int .u8 165)] = some (.ro 1 (.pb E) 0, H))
    (hA2 : appendV X [some nilB, some ob1] 22 (.sl 1 0 b.length 1) (.ro 1 (.pb E) 0) = some (.sl 1 0 n8 2, [some nilB, some ob2]))
    (hS2 : sliceV X [some nilB, some ob2] 22 (.sl 1 0 n8 2) none (some (.int .i64 (b.length : Nat))) = some (.sl 1 0 b.length 2)) :
    ∃ code, ownO = some code ∧ Run X (evT X) 13 0 code [(0, .ro c (.pb b) 1)] [some nilB] ⟨.normal, [(2, .sl 1 0 b.length 2)], [some nilB, some ob2]⟩ := by
  refine ⟨_, rfl, 0, ?_⟩
  simp (maxSteps := 2000000) -implicitDefEqProofs [-getElem?_pos, List.getElem?_cons_zero, List.getElem?_cons_succ, go_sem, eqV, plen, loadV, storeV, assignV, w8, hM, hA1, hA2, hb8, hS2]

section
variable (c : Nat) (b : List UInt8)

set_option maxRecDepth 100000 in
theorem own_code (hc : c = 0 → b = []) (hb : b.length ≤ 900000) : ∃ code, Try.f13.body = some code ∧
    Tells (Rets fun fr H => ∃ o g ob, getF fr 2 = .sl o 0 b.length g ∧ H[o]? = some (some ob) ∧ Rw (.pb (b ++ e8)) g ob ∧ ob.cap = some (b.length + 8)) X (evT X) 13 0 code [(0, .ro c (.pb b) 1)] [] := by
  refine ⟨_, rfl, ?_⟩
  have w8 : IntKind.i64.wrap ((b.length : Int) + 8) = ((b.length + 8 : Nat) : Int) := by rw [wrap_i64 (by omega) (by omega)]; omega
  have hM := mk0 (n := b.length + 8) (by omega) [some nilB]
  have hw0 : Rw (.pb []) 0 ⟨.pb [], 0, some (b.length + 8), 1, true, false, 0⟩ := ⟨rfl, rfl, rfl, rfl, rfl⟩
  obtain ⟨ob1, hw1, hk1, hA1⟩ := app_rwc (C := X) (T := 22) (e := 5) (by simp) (und5) (by simp) (by simp) (by simp) (H := [some nilB, some ⟨.pb [], 0, some (b.length + 8), 1, true, false, 0⟩]) (o := 1) (g := 0) (k := b.length + 8) (l := []) (m := b) (src := .ro c (.pb b) 1) rfl hw0 rfl (by simp) (srcB (.inl rfl)) (by simp; omega)
  rw [List.nil_append] at hw1
  rw [List.length_nil, Nat.zero_add] at hA1
  obtain ⟨ob2, hw2, hk2, hA2⟩ := app_rwc (C := X) (T := 22) (e := 5) (by simp) (und5) (by simp) (by simp) (by simp) (H := [some nilB, some ob1]) (o := 1) (g := 1) (k := b.length + 8) (l := b) (m := e8) (src := .ro 1 (.pb e8) 0) rfl hw1 hk1 (by simp [e8]) (.inl rfl) (by simp [e8]; omega)
  have hPl : plen (.pb (b ++ e8)) = b.length + 8 := by simp [plen, e8]
  have hS2 : sliceV X [some nilB, some ob2] 22 (.sl 1 0 (b.length + 8) 2) none (some (.int .i64 (b.length : Nat))) = some (.sl 1 0 b.length 2) := by
    have hg := hw2.g
    have hp := hw2.p
    have hle : (b.length : Int) ≤ (b.length : Int) + 8 := by omega
    simp [sliceV, bound, live, hg, hp, hPl, pesz, hle]
  apply Tells.seq (fr' := [(0, .ro c (.pb b) 1)]) (H' := [some nilB])
  · (refine ⟨0, ?_⟩; simp (maxSteps := 2000000) -implicitDefEqProofs [-getElem?_pos, List.getElem?_cons_zero, List.getElem?_cons_succ, go_sem, eqV, plen, loadV, storeV, assignV, emB])
  refine Tells.seq (pieceF (own_r1 w8 hM hA1 bs8 hA2 hS2) _ rfl) (Tells.of (o := ⟨.ret, [(2, .sl 1 0 b.length 2)], [some nilB, some ob2]⟩) ⟨0, rfl⟩ ⟨rfl, 1, 2, ob2, rfl, rfl, hw2, hk2⟩)

/-- an own copy, its rows of eight behind it -/
structure OwnB (b : List UInt8) (ob : AM.Obj) : Prop where
  rw : Rw (.pb (b ++ e8)) 0 ob
  cap : ob.cap = some (b.length + 8)

def kpFr (c t : Nat) (b : List UInt8) (i : Nat) : AM.Frame := [(5, .sl 0 b.length 8 0), (6, .int .i64 (i : Nat))]

set_option maxRecDepth 100000 in
theorem kept_code (ob : AM.Obj) (hp : ob.p = .pb (b ++ e8)) (hg : ob.g = 0) (hid : ob.ids = false) (hk : ob.cap = some (b.length + 8)) (hc : c = 0 → b = []) (hb : b.length ≤ 900000) : ∃ code, Try.f17.body = some code ∧
    Tells (Rets fun fr H => getF fr 4 = .bool true ∧ H = [some ob]) X (evT X) 17 1 code [(0, .sl 0 0 b.length 0), (1, .ro c (.pb b) 2)] [some ob] := by
  refine ⟨_, rfl, ?_⟩
  have w8 : IntKind.i64.wrap ((b.length : Int) + 8) = (b.length : Int) + 8 := by rw [wrap_i64 (by omega) (by omega)]
  have hPl : plen (.pb (b ++ e8)) = b.length + 8 := by simp [plen, e8]
  have hS := sameB_ev (H := [some ob]) (a := .sl 0 0 b.length 0) (a2 := .ro c (.pb b) 2) (Byt.part (l := b) rfl hg hp hid (by simp) (by simp)) (Byt.ro (.inl rfl) hc)
  rw [beq_self_eq_true] at hS
  have hC : capV X [some ob] 22 (.sl 0 0 b.length 0) = some ((b.length : Int) + 8) := by simp [capV, live, hg, hk]
  have hS1 : sliceV X [some ob] 22 (.sl 0 0 b.length 0) none (some (.int .i64 ((b.length : Int) + 8))) = some (.sl 0 0 (b.length + 8) 0) := by
    have h1 : (0 : Int) ≤ (b.length : Int) + 8 := by omega
    have h2 : ((b.length : Int) + 8).toNat = b.length + 8 := by omega
    simp [sliceV, bound, live, hg, hp, hPl, pesz, h1, h2]
  have hS2 : sliceV X [some ob] 22 (.sl 0 0 (b.length + 8) 0) (some (.int .i64 (b.length : Nat))) none = some (.sl 0 b.length 8 0) := by
    have hle : (b.length : Int) ≤ (b.length : Int) + 8 := by omega
    simp [sliceV, bound, live, hg, hp, hPl, pesz, hle]
  apply Tells.seq (fr' := [(0, .sl 0 0 b.length 0), (1, .ro c (.pb b) 2)]) (H' := [some ob])
  · (refine ⟨0, ?_⟩; simp (maxSteps := 2000000) -implicitDefEqProofs [-getElem?_pos, List.getElem?_cons_zero, List.getElem?_cons_succ, go_sem, eqV, plen, loadV, storeV])
  apply Tells.seq (fr' := [(0, .sl 0 0 b.length 0), (1, .ro c (.pb b) 2), (18, .bool false)]) (H' := [some ob])
  · (refine ⟨0, ?_⟩; simp (maxSteps := 2000000) -implicitDefEqProofs [-getElem?_pos, List.getElem?_cons_zero, List.getElem?_cons_succ, go_sem, eqV, plen, loadV, storeV, hS, hC, w8])
  apply Tells.seq (fr' := [(5, .sl 0 b.length 8 0)]) (H' := [some ob])
  · (refine ⟨0, ?_⟩; simp (maxSteps := 2000000) -implicitDefEqProofs [-getElem?_pos, List.getElem?_cons_zero, List.getElem?_cons_succ, go_sem, eqV, plen, loadV, storeV, hS1, hS2, w8])
  apply Tells.andThen (P := fun fr H => fr = kpFr c 2 b 8 ++ [(33, .bool false)] ∧ H = [some ob])
  · apply Tells.seq (fr' := kpFr c 2 b 0) (H' := [some ob])
    · (refine ⟨0, ?_⟩; simp (maxSteps := 2000000) -implicitDefEqProofs [-getElem?_pos, List.getElem?_cons_zero, List.getElem?_cons_succ, go_sem, eqV, plen, loadV, storeV, kpFr])
    apply Tells.block
    refine Tells.loop (σ := Nat) (fun i => i ≤ 8) (fun i => kpFr c 2 b i) (fun _ => [some ob]) (fun i => 8 - i) ?_ 0 (by omega)
    intro i hi
    by_cases hi8 : i = 8
    · right
      subst hi8
      refine ⟨⟨.exit 0, kpFr c 2 b 8 ++ [(33, .bool false)], [some ob]⟩, ⟨rfl, rfl, rfl⟩, by simp, ?_⟩
      (refine ⟨0, ?_⟩; simp (maxSteps := 2000000) -implicitDefEqProofs [-getElem?_pos, List.getElem?_cons_zero, List.getElem?_cons_succ, go_sem, eqV, plen, loadV, storeV, kpFr, hg])
    · left
      have hiI : (i : Int) < 8 := by omega
      have w1 : IntKind.i64.wrap ((i : Int) + 1) = ((i + 1 : Nat) : Int) := by rw [wrap_i64 (by omega) (by omega)]; omega
      have hv : (b ++ e8)[b.length + i]? = some 165 := by
        rw [List.getElem?_append_right (by omega), show b.length + i - b.length = i by omega]
        match i, hi, hi8 with
        | 0, _, _ | 1, _, _ | 2, _, _ | 3, _, _ | 4, _, _ | 5, _, _ | 6, _, _ | 7, _, _ => rfl
        | 8, _, h => exact absurd rfl h
        | i + 9, h, _ => omega
      refine ⟨i + 1, by omega, ?_, by omega⟩
      have hin : i < 8 := by omega
      (refine ⟨0, ?_⟩; simp (maxSteps := 2000000) -implicitDefEqProofs [-getElem?_pos, List.getElem?_cons_zero, List.getElem?_cons_succ, go_sem, eqV, plen, loadV, storeV, kpFr, hiI, hin, hg, hp, hid, hv, w1])
  · rintro fr H ⟨rfl, rfl⟩
    refine Tells.of (o := ⟨.ret, [(4, .bool true)], [some ob]⟩) ⟨0, ?_⟩ ⟨rfl, rfl, rfl⟩
    simp (maxSteps := 2000000) -implicitDefEqProofs [-getElem?_pos, List.getElem?_cons_zero, List.getElem?_cons_succ, go_sem, eqV, plen, loadV, storeV, kpFr]

end

theorem own_ev {H : AM.Heap} {a : AV} {b : List UInt8} (h : Byt H a b) (hb : b.length ≤ 900000) : ∃ ob, OwnB b ob ∧ evT X 13 [a] H = some (.sl H.length 0 b.length 0, H ++ [some ob]) := by
  obtain ⟨c, p, xl, hp, hc, hx⟩ := args_byt (C := X) (f := 13) (i := 0) rfl h (args_nil 1)
  obtain ⟨code, hcode, hr⟩ := own_code c b hc hb
  obtain ⟨ob, q1, q2, q3⟩ := Ev1.newBc (H := H) (n := b.length) (k := some (b.length + 8)) (l := b ++ e8) (rest := []) (evT_below X) Try.func13 hcode hx (by simp [idsL, ids, hp.ids]) (by simp [gtag]) rfl rfl rfl (by
    obtain ⟨o, ⟨he, o1, g, ob, q1, q2, q3, q4⟩, hrun⟩ := hr
    exact ⟨o, ⟨he, o1, g, ob, congrArg (fun v => some [v]) q1, q2, q3, q4⟩, by rw [par13, coB hp]; exact hrun⟩)
  exact ⟨ob, ⟨q1, q2⟩, evT_eq q3⟩

theorem OwnB.byt {H : AM.Heap} {o : Nat} {ob : AM.Obj} {b : List UInt8} (ho : H[o]? = some (some ob)) (h : OwnB b ob) : Byt H (.sl o 0 b.length 0) b :=
  Byt.sl ho h.rw (by simp) (by simp)

theorem kept_ev {H : AM.Heap} {o : Nat} {ob : AM.Obj} {b : List UInt8} {c t : Nat} (ho : H[o]? = some (some ob)) (h : OwnB b ob) (hc : c = 0 → b = []) (hb : b.length ≤ 900000) :
    evT X 17 [.sl o 0 b.length 0, .ro c (.pb b) t] H = some (.bool true, H) := by
  have hl : lendArgs X 17 H 1 [.ro c (.pb b) t] = some ([.ro c (.pb b) 2], [⟨[], [t]⟩]) := by simp [lendArgs, lendV, lend1]
  obtain ⟨code, hcode, ⟨⟨ex, fr, H1⟩, ⟨he, h4, hH⟩, hrun⟩⟩ := kept_code c b { ob with g := 0, tg := 3 } h.rw.p rfl h.rw.ids h.cap hc hb
  simp only at he h4 hH
  subst he hH
  exact evT_eq (Ev1.rw1 (H := H) (n := 3) (l := [.bool true]) (rest := []) (evT_below X) Try.func17 hcode rfl ho h.rw.g h.rw.ids (by rw [h.rw.p]; rfl) h.rw.tg hl rfl rfl rfl (by simp [gtag])
    (by rw [par17]; simpa [coerce, numbered] using hrun) (.inr rfl) (by show some [getF fr 4] = _; rw [h4]) rfl rfl rfl)

end Go.Proofs.Ytbmddnokokoofaa
