/- Walks: the document's fixed number behind bytes. -/
import Derived.Test.YtbmddnokokoofaaFD
namespace Go.Proofs.Ytbmddnokokoofaa
open Go.AM
set_option linter.unusedSimpArgs false
set_option linter.unusedVariables false

section
variable (c : Nat) (b : List UInt8) (x n : Nat)

def rafFr (i : Nat) : AM.Frame := [(1, .int .u64 (x : Nat)), (2, .int .i64 (n : Nat)), (8, .sl 1 0 (b.length + i) i), (9, .int .i64 (i : Nat))]

set_option maxRecDepth 100000 in
theorem raf_code (hc : c = 0 → b = []) (hb : b.length ≤ 90000000) (h1 : 1 ≤ n) (h8 : n ≤ 8) (hx : x < 256 ^ n) : ∃ code, Try.f61.body = some code ∧
    Tells (Rets fun fr H => ∃ o g ob, getF fr 6 = .sl o 0 (b.length + n) g ∧ getF fr 7 = .int .i64 0 ∧ H[o]? = some (some ob) ∧ Rw (.pb (b ++ leB n x)) g ob) X (evT X) 61 0 code [(0, .ro c (.pb b) 1), (1, .int .u64 (x : Nat)), (2, .int .i64 (n : Nat))] [] := by
  refine ⟨_, rfl, ?_⟩
  have hb0 := fun H => bs0 H
  have hC := app_lit (H := [some nilB]) (m := b) (src := .ro c (.pb b) 1) (srcB (.inl rfl)) (by omega)
  have hw0 : Rw (.pb b) 0 ⟨.pb b, 0, .none, 1, true, false, 0⟩ := ⟨rfl, rfl, rfl, rfl, rfl⟩
  generalize (⟨.pb b, 0, .none, 1, true, false, 0⟩ : AM.Obj) = ob0 at *
  have g1 : ¬ (n : Int) < 1 := by omega
  have g8 : ¬ (8 : Int) < (n : Int) := by omega
  have hz : (n : Int) < 8 → Int.fdiv (x : Int) (2 ^ (min (8 * n) 64)) = 0 := by
    intro h
    rw [shr_u64 (by omega), Nat.div_eq_of_lt hx]; rfl
  have wn : IntKind.u64.wrap (n : Int) = (n : Int) := wrap_u64 (by omega) (by omega)
  have w8 : IntKind.u64.wrap (8 * (n : Int)) = ((8 * n : Nat) : Int) := by rw [wrap_u64 (by omega) (by omega)]; omega
  have hn0 : ¬ (((8 * n : Nat) : Int) < 0) := by omega
  have hmb : IntKind.u64.bits = 64 := rfl
  apply Tells.seq
  · (refine ⟨0, ?_⟩; conv => lhs; simp (maxSteps := 2000000) -implicitDefEqProofs [-getElem?_pos, List.getElem?_cons_zero, List.getElem?_cons_succ, go_sem, eqV, plen, loadV, storeV, assignV, emB])
  apply Tells.seq (fr' := [(0, .ro c (.pb b) 1), (1, .int .u64 (x : Nat)), (2, .int .i64 (n : Nat)), (27, .bool false)]) (H' := [some nilB])
  · by_cases h : (n : Int) < 8
    · have hz := hz h
      generalize 8 * n = n8 at *
      (refine ⟨0, ?_⟩; simp (maxSteps := 2000000) -implicitDefEqProofs [-getElem?_pos, List.getElem?_cons_zero, List.getElem?_cons_succ, go_sem, eqV, plen, loadV, storeV, g1, g8, h, hz, wn, w8, hn0, hmb])
    · (refine ⟨0, ?_⟩; simp (maxSteps := 2000000) -implicitDefEqProofs [-getElem?_pos, List.getElem?_cons_zero, List.getElem?_cons_succ, go_sem, eqV, plen, loadV, storeV, g1, g8, h, hz, wn, w8, hn0, hmb])
  apply Tells.seq (fr' := [(1, .int .u64 (x : Nat)), (2, .int .i64 (n : Nat)), (8, .sl 1 0 b.length 0)]) (H' := [some nilB, some ob0])
  · (refine ⟨0, ?_⟩; simp (maxSteps := 2000000) -implicitDefEqProofs [-getElem?_pos, List.getElem?_cons_zero, List.getElem?_cons_succ, go_sem, eqV, plen, loadV, storeV, hb0, hC, assignV])
  apply Tells.andThen (P := fun fr H => ∃ ob, Rw (.pb (b ++ leB n x)) n ob ∧ fr = rafFr b x n n ++ [(33, .bool false)] ∧ H = [some nilB, some ob])
  · apply Tells.seq (fr' := rafFr b x n 0) (H' := [some nilB, some ob0])
    · (refine ⟨0, ?_⟩; simp (maxSteps := 2000000) -implicitDefEqProofs [-getElem?_pos, List.getElem?_cons_zero, List.getElem?_cons_succ, go_sem, eqV, plen, loadV, storeV, rafFr])
    apply Tells.block
    refine Tells.loop (σ := Nat × AM.Obj) (fun s => s.1 ≤ n ∧ Rw (.pb (b ++ leB s.1 x)) s.1 s.2) (fun s => rafFr b x n s.1) (fun s => [some nilB, some s.2]) (fun s => n - s.1) ?_ (0, ob0) ⟨by simp, by simpa [leB] using hw0⟩
    rintro ⟨i, ob⟩ ⟨hi, hw⟩
    simp only at hi hw ⊢
    by_cases hin : i = n
    · right
      subst hin
      refine ⟨⟨.exit 0, rafFr b x i i ++ [(33, .bool false)], [some nilB, some ob]⟩, ⟨rfl, ob, hw, rfl, rfl⟩, by simp, ?_⟩
      (refine ⟨0, ?_⟩; simp (maxSteps := 2000000) -implicitDefEqProofs [-getElem?_pos, List.getElem?_cons_zero, List.getElem?_cons_succ, go_sem, eqV, plen, loadV, storeV, rafFr])
    · left
      have hlt : i < 8 := by omega
      have hiI : (i : Int) < (n : Int) := by omega
      have w1 : IntKind.i64.wrap ((i : Int) + 1) = ((i + 1 : Nat) : Int) := by rw [wrap_i64 (by omega) (by omega)]; omega
      have wi : IntKind.u64.wrap (i : Int) = (i : Int) := wrap_u64 (by omega) (by omega)
      have w8 : IntKind.u64.wrap (8 * (i : Int)) = ((8 * i : Nat) : Int) := by rw [wrap_u64 (by omega) (by omega)]; omega
      have hn0 : ¬ (((8 * i : Nat) : Int) < 0) := by omega
      have hsh := shr_u64 (x := x) hlt
      have hlen := leB_len i x
      obtain ⟨ob', hw', hA⟩ := app_b (H := [some nilB, some ob]) (o := 1) (src := .ro 1 (.pb [UInt8.ofNat (x / 256 ^ i % 256)]) 0) rfl hw (.inl rfl) (by simp [hlen]; omega)
      rw [List.append_assoc, ← leB_snoc] at hw'
      simp only [List.length_append, hlen, List.length_cons, List.length_nil] at hA
      refine ⟨(i + 1, ob'), ⟨by simp only; omega, hw'⟩, ?_, by simp only; omega⟩
      have hwb := wrap_byte (x / 256 ^ i)
      have hbs := fun H => bs1 H (UInt8.ofNat (x / 256 ^ i % 256))
      generalize x / 256 ^ i = z at *
      generalize UInt8.ofNat (z % 256) = y at *
      generalize 8 * i = i8 at *
      (refine ⟨0, ?_⟩; simp (maxSteps := 2000000) -implicitDefEqProofs [-getElem?_pos, List.getElem?_cons_zero, List.getElem?_cons_succ, go_sem, eqV, plen, loadV, storeV, rafFr, hiI, w1, wi, w8, hn0, hmb, hsh, hwb, hbs, hA, upd])
      omega
  · rintro fr H ⟨ob, hw, rfl, rfl⟩
    refine Tells.of (o := ⟨.ret, [(6, .sl 1 0 (b.length + n) n), (7, .int .i64 0)], [some nilB, some ob]⟩) ?_ ⟨rfl, 1, n, ob, rfl, rfl, rfl, hw⟩
    refine ⟨0, ?_⟩
    simp (maxSteps := 2000000) -implicitDefEqProofs [-getElem?_pos, List.getElem?_cons_zero, List.getElem?_cons_succ, go_sem, eqV, plen, loadV, storeV, rafFr, assignV]

end

theorem raf_ev {H : AM.Heap} {a : AV} {b : List UInt8} {x n : Nat} (h : Byt H a b) (hb : b.length ≤ 90000000) (h1 : 1 ≤ n) (h8 : n ≤ 8) (hx : x < 256 ^ n) :
    ∃ ob, Rw (.pb (b ++ leB n x)) 0 ob ∧ evT X 61 [a, .int .u64 (x : Nat), .int .i64 (n : Nat)] H = some (.tup [.sl H.length 0 (b.length + n) 0, .int .i64 0], H ++ [some ob]) := by
  obtain ⟨c, p, xl, hp, hc, hx'⟩ := args_byt (C := X) (f := 61) (i := 0) rfl h (args_flat (i := 1) (a := .int .u64 (x : Nat)) rfl rfl (args_flat (i := 2) (a := .int .i64 (n : Nat)) rfl rfl (args_nil 3)))
  obtain ⟨code, hcode, hr⟩ := raf_code c b x n hc hb h1 h8 hx
  obtain ⟨ob, q1, q2⟩ := Ev1.newB (H := H) (n := b.length + n) (l := b ++ leB n x) (rest := [.int .i64 0]) (evT_below X) Try.func61 hcode hx' (by simp [idsL, ids, hp.ids]) (by simp [gtag]) rfl rfl rfl (by
    obtain ⟨o, ⟨he, o1, g, ob, q1, q2, q3, q4⟩, hrun⟩ := hr
    exact ⟨o, ⟨he, o1, g, ob, by show some [getF o.fr 6, getF o.fr 7] = _; rw [q1, q2], q3, q4⟩, by rw [par61, coB hp]; exact hrun⟩)
  exact ⟨ob, q1, evT_eq q2⟩

end Go.Proofs.Ytbmddnokokoofaa
