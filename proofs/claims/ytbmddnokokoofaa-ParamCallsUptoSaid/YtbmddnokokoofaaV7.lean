/- Walks: a fixed number's lowest bytes, appended to what is handed over. -/
import Derived.Test.YtbmddnokokoofaaL3
import Derived.Test.YtbmddnokokoofaaAm3
namespace Go.Proofs.Ytbmddnokokoofaa
open Go.AM
set_option linter.unusedSimpArgs false
set_option linter.unusedVariables false

theorem app_t {H : AM.Heap} {o g t : Nat} {ob : AM.Obj} {l m : List UInt8} {src : AV} (ho : H[o]? = some (some ob)) (h : RwT (.pb l) g t ob) (hsrc : srcV H src = some (.pb m, 0) ∨ (srcV H src = some (.pn, 0) ∧ m = [])) (hn : l.length + m.length ≤ 100000000) :
    ∃ ob', RwT (.pb (l ++ m)) (g + 1) t ob' ∧ appendV X H 22 (.sl o 0 l.length g) src = some (.sl o 0 (l.length + m.length) (g + 1), upd H o (some ob')) :=
  app_rwt (by simp) (und5) (by simp) (by simp) (by simp) ho h hsrc hn

section
variable (l : List UInt8) (x n tg : Nat)

def vfFr (i : Nat) : AM.Frame := [(0, .sl 0 0 (l.length + i) i), (1, .int .u64 (x : Nat)), (8, .int .i64 (n : Nat)), (9, .int .i64 (i : Nat))]

set_option maxRecDepth 100000 in
theorem vfixed_code (ob : AM.Obj) (hw : RwT (.pb l) 0 tg ob) (hl : l.length ≤ 90000000) (h8 : n ≤ 8) : ∃ code, Try.f39.body = some code ∧
    Tells (Rets fun fr H => ∃ ob', getF fr 6 = .sl 0 0 (l.length + n) n ∧ H = [some ob', some nilB] ∧ RwT (.pb (l ++ leB n x)) n tg ob') X (evT X) 39 1 code [(0, .sl 0 0 l.length 0), (1, .int .u64 (x : Nat)), (2, .int .i64 (n : Nat))] [some ob] := by
  refine ⟨_, rfl, ?_⟩
  have hmb : IntKind.u64.bits = 64 := rfl
  apply Tells.seq (fr' := [(0, .sl 0 0 l.length 0), (1, .int .u64 (x : Nat)), (2, .int .i64 (n : Nat))]) (H' := [some ob, some nilB])
  · (refine ⟨0, ?_⟩; simp (maxSteps := 2000000) -implicitDefEqProofs [-getElem?_pos, List.getElem?_cons_zero, List.getElem?_cons_succ, go_sem, eqV, plen, loadV, storeV, assignV, emB])
  apply Tells.andThen (P := fun fr H => ∃ ob', fr = vfFr l x n n ++ [(10, .bool false)] ∧ H = [some ob', some nilB] ∧ RwT (.pb (l ++ leB n x)) n tg ob')
  · apply Tells.seq (fr' := vfFr l x n 0) (H' := [some ob, some nilB])
    · (refine ⟨0, ?_⟩; simp (maxSteps := 2000000) -implicitDefEqProofs [-getElem?_pos, List.getElem?_cons_zero, List.getElem?_cons_succ, go_sem, eqV, plen, loadV, storeV, vfFr])
    apply Tells.block
    refine Tells.loop (σ := Nat × AM.Obj) (fun s => s.1 ≤ n ∧ RwT (.pb (l ++ leB s.1 x)) s.1 tg s.2) (fun s => vfFr l x n s.1) (fun s => [some s.2, some nilB]) (fun s => n - s.1) ?_ (0, ob) ⟨by simp, by simpa [leB] using hw⟩
    rintro ⟨i, ob⟩ ⟨hi, hw⟩
    simp only at hi hw ⊢
    by_cases hin : i = n
    · right
      subst hin
      refine ⟨⟨.exit 0, vfFr l x i i ++ [(10, .bool false)], [some ob, some nilB]⟩, ⟨rfl, ob, rfl, rfl, hw⟩, by simp, ?_⟩
      (refine ⟨0, ?_⟩; simp (maxSteps := 2000000) -implicitDefEqProofs [-getElem?_pos, List.getElem?_cons_zero, List.getElem?_cons_succ, go_sem, eqV, plen, loadV, storeV, vfFr])
    · left
      have hlt : i < 8 := by omega
      have hiI : (i : Int) < (n : Int) := by omega
      have w1 : IntKind.i64.wrap ((i : Int) + 1) = ((i + 1 : Nat) : Int) := by rw [wrap_i64 (by omega) (by omega)]; omega
      have w8 : IntKind.i64.wrap (8 * (i : Int)) = ((8 * i : Nat) : Int) := by rw [wrap_i64 (by omega) (by omega)]; omega
      have hn0 : ¬ (((8 * i : Nat) : Int) < 0) := by omega
      have hsh := shr_u64 (x := x) hlt
      have hlen := leB_len i x
      obtain ⟨ob', hw', hA⟩ := app_t (H := [some ob, some nilB]) (o := 0) (src := .ro 1 (.pb [UInt8.ofNat (x / 256 ^ i % 256)]) 0) rfl hw (.inl rfl) (by simp [hlen]; omega)
      rw [List.append_assoc, ← leB_snoc] at hw'
      simp only [List.length_append, hlen, List.length_cons, List.length_nil] at hA
      refine ⟨(i + 1, ob'), ⟨by simp only; omega, hw'⟩, ?_, by simp only; omega⟩
      have hwb := wrap_byte (x / 256 ^ i)
      have hbs := fun H => bs1 H (UInt8.ofNat (x / 256 ^ i % 256))
      generalize x / 256 ^ i = z at *
      generalize UInt8.ofNat (z % 256) = y at *
      generalize 8 * i = i8 at *
      (refine ⟨0, ?_⟩; simp (maxSteps := 2000000) -implicitDefEqProofs [-getElem?_pos, List.getElem?_cons_zero, List.getElem?_cons_succ, go_sem, eqV, plen, loadV, storeV, vfFr, hiI, w1, w8, hn0, hmb, hsh, hwb, hbs, hA, upd])
      omega
  · rintro fr H ⟨ob', rfl, rfl, hw⟩
    refine Tells.of (o := ⟨.ret, [(6, .sl 0 0 (l.length + n) n)], [some ob', some nilB]⟩) ?_ ⟨rfl, ob', rfl, rfl, hw⟩
    refine ⟨0, ?_⟩
    simp (maxSteps := 2000000) -implicitDefEqProofs [-getElem?_pos, List.getElem?_cons_zero, List.getElem?_cons_succ, go_sem, eqV, plen, loadV, storeV, vfFr, assignV]

end

/-- as it is told to the caller -/
theorem vfixed_ev {H : AM.Heap} {o g x n tg : Nat} {N : Int} {ob : AM.Obj} {l : List UInt8} (ho : H[o]? = some (some ob)) (hw : RwT (.pb l) g tg ob) (hN : N = (n : Nat)) (hl : l.length ≤ 90000000) (h1 : 1 ≤ n) (h8 : n ≤ 8) :
    ∃ ob', RwT (.pb (l ++ leB n x)) (g + 1) tg ob' ∧ evT X 39 [.sl o 0 l.length g, .int .u64 (x : Nat), .int .i64 N] H = some (.sl o 0 (l.length + n) (g + 1), upd H o (some ob')) := by
  subst hN
  obtain ⟨code, hcode, ⟨out, ⟨he, ob', q1, q2, q3⟩, hrun⟩⟩ := vfixed_code l x n 4 { ob with g := 0, tg := 4 } ⟨hw.p, rfl, hw.row, hw.ids, rfl⟩ hl h8
  refine ⟨{ ob' with g := g + 1, tg := tg }, ⟨q3.p, rfl, q3.row, q3.ids, rfl⟩, evT_eq ?_⟩
  have := Ev1.rwB (C := X) (f := 39) (H := H) (o := o) (off := 0) (len := l.length) (g := g) (ob := ob) (ob1 := ob') (xs := [.int .u64 (x : Nat), .int .i64 (n : Nat)]) (ys := [.int .u64 (x : Nat), .int .i64 (n : Nat)]) (n := 4) (rest := []) (restH := [some nilB]) (off1 := 0) (n1 := l.length + n) (g1 := n)
    (evT_below X) Try.func39 hcode rfl ho hw.g hw.ids (by rw [hw.p]; rfl) (args_flat rfl rfl (args_flat rfl rfl (args_nil 3))) rfl rfl rfl (by simp [gtag])
    (by rw [par39]; simpa [coerce, numbered] using hrun) (.inr he) (by show some [getF out.fr 6] = _; rw [q1]) q2 q3.g q3.ids (by rw [q3.p]; rfl) (.inr q3.tg) rfl rfl rfl
  rw [if_neg (by omega), q3.tg, hw.tg] at this
  exact this

end Go.Proofs.Ytbmddnokokoofaa
