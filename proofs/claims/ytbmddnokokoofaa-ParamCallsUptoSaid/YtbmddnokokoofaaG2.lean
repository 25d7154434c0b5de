/- Walks: a copy of bytes; a fixed number behind bytes. -/
import Derived.Test.YtbmddnokokoofaaG1
import Derived.Test.YtbmddnokokoofaaAm3
namespace Go.Proofs.Ytbmddnokokoofaa
open Go.AM
set_option linter.unusedSimpArgs false
set_option linter.unusedVariables false

/-- an empty slice of bytes -/
def nilB : AM.Obj := ⟨.pb [], 0, .none, 0, true, false, 0⟩
theorem nilB_rw : Rw (.pb []) 0 nilB := ⟨rfl, rfl, rfl, rfl, rfl⟩
theorem emB : rowOf (emptyRow X 5) .none 0 = nilB := by simp [emptyRow, rowOf, nilB]

theorem app_b {H : AM.Heap} {o g : Nat} {ob : AM.Obj} {l m : List UInt8} {src : AV} (ho : H[o]? = some (some ob)) (h : Rw (.pb l) g ob) (hsrc : srcV H src = some (.pb m, 0) ∨ (srcV H src = some (.pn, 0) ∧ m = [])) (hn : l.length + m.length ≤ 100000000) :
    ∃ ob', Rw (.pb (l ++ m)) (g + 1) ob' ∧ appendV X H 22 (.sl o 0 l.length g) src = some (.sl o 0 (l.length + m.length) (g + 1), upd H o (some ob')) :=
  app_rw (by simp) (und5) (by simp) (by simp) (by simp) ho h hsrc hn

/-- onto an empty literal -/
theorem app_lit {H : AM.Heap} {m : List UInt8} {src : AV} (hsrc : srcV H src = some (.pb m, 0) ∨ (srcV H src = some (.pn, 0) ∧ m = [])) (hn : m.length ≤ 100000000) :
    appendV X H 22 (.ro 1 (.pb []) 0) src = some (.sl H.length 0 m.length 0, H ++ [some ⟨.pb m, 0, .none, 1, true, false, 0⟩]) := by
  have hroom : roomOk X 5 m.length = true := by simp [roomOk]; omega
  simp only [appendV, und22, size5, zok5]
  rcases hsrc with h | ⟨h, rfl⟩
  · simp [h, payB, plen, hroom, papp, emptyRow, pesz]
  · simp only [List.length_nil] at hroom
    simp [h, payB, plen, hroom, papp, emptyRow, pesz]

theorem srcB {H : AM.Heap} {c t : Nat} {p : AV} {l : List UInt8} (hp : PB p l) : srcV H (.ro c p t) = some (.pb l, 0) ∨ (srcV H (.ro c p t) = some (.pn, 0) ∧ l = []) := by
  rcases hp with rfl | ⟨rfl, rfl⟩
  · left; rfl
  · right; exact ⟨rfl, rfl⟩

theorem bs0 (H : AM.Heap) : buildSliceV X H 22 0 [] = some (.ro 1 (.pb []) 0, H) := by kernel_rfl

theorem coB {p : AV} {b : List UInt8} {c t : Nat} {r : List AV} {ts : List TypeId} (hp : PB p b) : coerce X (.ro c p t :: r) (22 :: ts) = .ro c (.pb b) t :: coerce X r ts := by
  rcases hp with rfl | ⟨rfl, rfl⟩
  · simp [coerce]
  · simp [coerce, emptyRow]

section
variable (T : Cf) (c : Nat) (b : List UInt8)

set_option maxRecDepth 100000 in
theorem clone_code (hc : c = 0 → b = []) (hb : b.length ≤ 100000000) : ∃ code, Try.f20.body = some code ∧
    Tells (Rets fun fr H => ∃ o g ob, getF fr 2 = .sl o 0 b.length g ∧ H[o]? = some (some ob) ∧ Rw (.pb b) g ob) X T 20 0 code [(0, .ro c (.pb b) 1)] [] := by
  refine ⟨_, rfl, ?_⟩
  by_cases h0 : c = 0
  · have hbn := hc h0
    subst hbn
    subst h0
    refine Tells.of (o := ⟨.ret, [(2, .sl 1 0 0 0)], [some nilB, some nilB]⟩) ?_ ⟨rfl, 1, 0, nilB, rfl, rfl, nilB_rw⟩
    refine ⟨0, ?_⟩
    simp (maxSteps := 2000000) -implicitDefEqProofs [-getElem?_pos, List.getElem?_cons_zero, List.getElem?_cons_succ, go_sem, eqV, plen, loadV, storeV, assignV, emB, isNil, nilFor]
  · have hA := app_lit (H := [some nilB]) (srcB (H := [some nilB]) (c := c) (t := 1) (.inl rfl)) hb
    refine Tells.of (o := ⟨.ret, [(2, .sl 1 0 b.length 0)], [some nilB, some ⟨.pb b, 0, .none, 1, true, false, 0⟩]⟩) ?_ ⟨rfl, 1, 0, _, rfl, rfl, ⟨rfl, rfl, rfl, rfl, rfl⟩⟩
    refine ⟨0, ?_⟩
    simp (maxSteps := 2000000) -implicitDefEqProofs [-getElem?_pos, List.getElem?_cons_zero, List.getElem?_cons_succ, go_sem, eqV, plen, loadV, storeV, assignV, emB, isNil, nilFor, h0, bs0, hA]

end

theorem clone_ev {H : AM.Heap} {a : AV} {b : List UInt8} (h : Byt H a b) (hb : b.length ≤ 100000000) : ∃ ob, Rw (.pb b) 0 ob ∧ evT X 20 [a] H = some (.sl H.length 0 b.length 0, H ++ [some ob]) := by
  obtain ⟨c, p, x, hp, hc, hx⟩ := args_byt (C := X) (f := 20) (i := 0) rfl h (args_nil 1)
  obtain ⟨code, hcode, hr⟩ := clone_code (evT X) c b hc hb
  obtain ⟨ob, h1, h2⟩ := Ev1.newB (H := H) (n := b.length) (l := b) (rest := []) (evT_below X) Try.func20 hcode hx (by simp [idsL, ids, hp.ids]) (by simp [gtag]) rfl rfl rfl (by
    obtain ⟨o, ⟨he, o1, g, ob, q1, q2, q3⟩, hrun⟩ := hr
    exact ⟨o, ⟨he, o1, g, ob, congrArg (fun v => some [v]) q1, q2, q3⟩, by rw [par20, coB hp]; exact hrun⟩)
  exact ⟨ob, h1, evT_eq h2⟩

theorem bs1 (H : AM.Heap) (y : UInt8) : buildSliceV X H 22 1 [(0, .int .u8 (y.toNat : Nat))] = some (.ro 1 (.pb [y]) 0, H) := by
  have := y.toNat_lt
  have h1 : (y.toNat : Int) < 256 := by omega
  simp [buildSliceV, setParts, litRow, mkRow, asBytes, cellsAV, cellsOf, scalars, scalar, idsL, ids, tagsL, tags, joinTags, h1]

theorem shr_u64 {x i : Nat} (hi : i < 8) : Int.fdiv (x : Int) (2 ^ (min (8 * i) 64)) = ((x / 256 ^ i : Nat) : Int) := by
  rw [Nat.min_eq_left (by omega), pow256]
  rw [show ((2 : Int) ^ (8 * i)) = ((2 ^ (8 * i) : Nat) : Int) by simp]
  rw [Int.fdiv_eq_ediv_of_nonneg _ (Int.natCast_nonneg _)]
  exact (Int.natCast_ediv _ _).symm

theorem wrap_byte (z : Nat) : IntKind.u8.wrap (z : Int) = ((UInt8.ofNat (z % 256)).toNat : Nat) := by
  have : (UInt8.ofNat (z % 256)).toNat = z % 256 := by simp
  rw [this]
  unfold IntKind.wrap
  simp [IntKind.signed, IntKind.bits]

section
variable (c : Nat) (b : List UInt8) (x n : Nat)

def afFr (i : Nat) : AM.Frame := [(1, .int .u64 (x : Nat)), (8, .sl 1 0 (b.length + i) i), (29, .int .i64 (n : Nat)), (30, .int .i64 (i : Nat))]

set_option maxRecDepth 100000 in
theorem af_code (hc : c = 0 → b = []) (hb : b.length ≤ 90000000) (h1 : 1 ≤ n) (h8 : n ≤ 8) (hx : x < 256 ^ n) : ∃ code, Try.f67.body = some code ∧
    Tells (Rets fun fr H => ∃ o g ob, getF fr 6 = .sl o 0 (b.length + n) g ∧ getF fr 7 = .int .i64 0 ∧ H[o]? = some (some ob) ∧ Rw (.pb (b ++ leB n x)) g ob) X (evT X) 67 0 code [(0, .ro c (.pb b) 1), (1, .int .u64 (x : Nat)), (2, .int .i64 (n : Nat))] [] := by
  refine ⟨_, rfl, ?_⟩
  obtain ⟨ob0, hw0, hC⟩ := clone_ev (H := [some nilB]) (a := .ro c (.pb b) 1) (b := b) (Byt.ro (.inl rfl) hc) (by omega)
  have g1 : ¬ (n : Int) < 1 := by omega
  have g8 : ¬ (8 : Int) < (n : Int) := by omega
  have hz : (n : Int) < 8 → Int.fdiv (x : Int) (2 ^ (min (8 * n) 64)) = 0 := by
    intro h
    rw [shr_u64 (by omega), Nat.div_eq_of_lt hx]; rfl
  have w8 : IntKind.i64.wrap (8 * (n : Int)) = ((8 * n : Nat) : Int) := by rw [wrap_i64 (by omega) (by omega)]; omega
  have hn0 : ¬ (((8 * n : Nat) : Int) < 0) := by omega
  have hmb : IntKind.u64.bits = 64 := rfl
  apply Tells.seq
  · (refine ⟨0, ?_⟩; conv => lhs; simp (maxSteps := 2000000) -implicitDefEqProofs [-getElem?_pos, List.getElem?_cons_zero, List.getElem?_cons_succ, go_sem, eqV, plen, loadV, storeV, assignV, emB])
  apply Tells.seq (fr' := [(0, .ro c (.pb b) 1), (1, .int .u64 (x : Nat)), (2, .int .i64 (n : Nat)), (26, .bool false)]) (H' := [some nilB])
  · by_cases h : (n : Int) < 8
    · have hz := hz h
      generalize 8 * n = n8 at *
      (refine ⟨0, ?_⟩; simp (maxSteps := 2000000) -implicitDefEqProofs [-getElem?_pos, List.getElem?_cons_zero, List.getElem?_cons_succ, go_sem, eqV, plen, loadV, storeV, g1, g8, h, hz, w8, hn0, hmb])
    · (refine ⟨0, ?_⟩; simp (maxSteps := 2000000) -implicitDefEqProofs [-getElem?_pos, List.getElem?_cons_zero, List.getElem?_cons_succ, go_sem, eqV, plen, loadV, storeV, g1, g8, h, hz, w8, hn0, hmb])
  apply Tells.seq (fr' := [(1, .int .u64 (x : Nat)), (2, .int .i64 (n : Nat)), (8, .sl 1 0 b.length 0)]) (H' := [some nilB, some ob0])
  · (refine ⟨0, ?_⟩; simp (maxSteps := 2000000) -implicitDefEqProofs [-getElem?_pos, List.getElem?_cons_zero, List.getElem?_cons_succ, go_sem, eqV, plen, loadV, storeV, hC, assignV])
  apply Tells.andThen (P := fun fr H => ∃ ob, Rw (.pb (b ++ leB n x)) n ob ∧ fr = afFr b x n n ++ [(31, .bool false)] ∧ H = [some nilB, some ob])
  · apply Tells.seq (fr' := afFr b x n 0) (H' := [some nilB, some ob0])
    · (refine ⟨0, ?_⟩; simp (maxSteps := 2000000) -implicitDefEqProofs [-getElem?_pos, List.getElem?_cons_zero, List.getElem?_cons_succ, go_sem, eqV, plen, loadV, storeV, afFr])
    apply Tells.block
    refine Tells.loop (σ := Nat × AM.Obj) (fun s => s.1 ≤ n ∧ Rw (.pb (b ++ leB s.1 x)) s.1 s.2) (fun s => afFr b x n s.1) (fun s => [some nilB, some s.2]) (fun s => n - s.1) ?_ (0, ob0) ⟨by simp, by simpa [leB] using hw0⟩
    rintro ⟨i, ob⟩ ⟨hi, hw⟩
    simp only at hi hw ⊢
    by_cases hin : i = n
    · right
      subst hin
      refine ⟨⟨.exit 0, afFr b x i i ++ [(31, .bool false)], [some nilB, some ob]⟩, ⟨rfl, ob, hw, rfl, rfl⟩, by simp, ?_⟩
      (refine ⟨0, ?_⟩; simp (maxSteps := 2000000) -implicitDefEqProofs [-getElem?_pos, List.getElem?_cons_zero, List.getElem?_cons_succ, go_sem, eqV, plen, loadV, storeV, afFr])
    · left
      have hlt : i < 8 := by omega
      have hiI : (i : Int) < (n : Int) := by omega
      have w1 : IntKind.i64.wrap ((i : Int) + 1) = ((i + 1 : Nat) : Int) := by rw [wrap_i64 (by omega) (by omega)]; omega
      have w8 : IntKind.i64.wrap (8 * (i : Int)) = ((8 * i : Nat) : Int) := by rw [wrap_i64 (by omega) (by omega)]; omega
      have hn0 : ¬ (((8 * i : Nat) : Int) < 0) := by omega
      have hsh := shr_u64 (x := x) hlt
      have hlen := leB_len i x
      obtain ⟨ob', hw', hA⟩ := app_b (H := [some nilB, some ob]) (o := 1) (src := .ro 1 (.pb [UInt8.ofNat (x / 256 ^ i % 256)]) 0) rfl hw (.inl rfl) (by simp [hlen]; omega)
      rw [List.append_assoc, ← leB_snoc] at hw'
      simp only [List.length_append, hlen, List.length_cons, List.length_nil] at hA
      refine ⟨(i + 1, ob'), ⟨by simp only; omega, hw'⟩, ?_, by simp only; omega⟩
      have hwb := wrap_byte (x / 256 ^ i)
      have hbs := fun H => bs1 H (UInt8.ofNat (x / 256 ^ i % 256))
      generalize x / 256 ^ i = z at *
      generalize UInt8.ofNat (z % 256) = y at *
      generalize 8 * i = i8 at *
      (refine ⟨0, ?_⟩; simp (maxSteps := 2000000) -implicitDefEqProofs [-getElem?_pos, List.getElem?_cons_zero, List.getElem?_cons_succ, go_sem, eqV, plen, loadV, storeV, afFr, hiI, w1, w8, hn0, hmb, hsh, hwb, hbs, hA, upd])
      omega
  · rintro fr H ⟨ob, hw, rfl, rfl⟩
    refine Tells.of (o := ⟨.ret, [(6, .sl 1 0 (b.length + n) n), (7, .int .i64 0)], [some nilB, some ob]⟩) ?_ ⟨rfl, 1, n, ob, rfl, rfl, rfl, hw⟩
    refine ⟨0, ?_⟩
    simp (maxSteps := 2000000) -implicitDefEqProofs [-getElem?_pos, List.getElem?_cons_zero, List.getElem?_cons_succ, go_sem, eqV, plen, loadV, storeV, afFr, assignV]

end

theorem af_ev {H : AM.Heap} {a : AV} {b : List UInt8} {x n : Nat} (h : Byt H a b) (hb : b.length ≤ 90000000) (h1 : 1 ≤ n) (h8 : n ≤ 8) (hx : x < 256 ^ n) :
    ∃ ob, Rw (.pb (b ++ leB n x)) 0 ob ∧ evT X 67 [a, .int .u64 (x : Nat), .int .i64 (n : Nat)] H = some (.tup [.sl H.length 0 (b.length + n) 0, .int .i64 0], H ++ [some ob]) := by
  obtain ⟨c, p, xl, hp, hc, hx'⟩ := args_byt (C := X) (f := 67) (i := 0) rfl h (args_flat (i := 1) (a := .int .u64 (x : Nat)) rfl rfl (args_flat (i := 2) (a := .int .i64 (n : Nat)) rfl rfl (args_nil 3)))
  obtain ⟨code, hcode, hr⟩ := af_code c b x n hc hb h1 h8 hx
  obtain ⟨ob, q1, q2⟩ := Ev1.newB (H := H) (n := b.length + n) (l := b ++ leB n x) (rest := [.int .i64 0]) (evT_below X) Try.func67 hcode hx' (by simp [idsL, ids, hp.ids]) (by simp [gtag]) rfl rfl rfl (by
    obtain ⟨o, ⟨he, o1, g, ob, q1, q2, q3, q4⟩, hrun⟩ := hr
    exact ⟨o, ⟨he, o1, g, ob, by show some [getF o.fr 6, getF o.fr 7] = _; rw [q1, q2], q3, q4⟩, by rw [par67, coB hp]; exact hrun⟩)
  exact ⟨ob, q1, evT_eq q2⟩

end Go.Proofs.Ytbmddnokokoofaa
